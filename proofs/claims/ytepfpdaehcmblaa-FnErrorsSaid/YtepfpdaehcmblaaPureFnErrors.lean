/- The plain law of FnErrors. -/
import Derived.Test.YtepfpdaehcmblaaSaysFnErrors
namespace Go.Proofs.Ytepfpdaehcmblaa.Pure
open Go Go.B Go.Proofs.Ytepfpdaehcmblaa.B Go.Proofs.Ytepfpdaehcmblaa.SaysFnErrors
set_option linter.unusedVariables false
set_option linter.unusedSimpArgs false
theorem w64 {n : Int} (h0 : -9223372036854775808 ≤ n) (h1 : n ≤ 9223372036854775807) : IntKind.i64.wrap n = n := by
 rw [IntKind.wrap_i64]; omega
theorem tb {c : Prop} [Decidable c] (h : c) : decide c = true := decide_eq_true h
theorem fb {c : Prop} [Decidable c] (h : ¬ c) : ¬ decide c = true := by simpa using h
theorem ff {c : Prop} [Decidable c] (h : ¬ c) : decide c = false := by simpa using h
def E {α : Type} (g : Nat → Nat → Nat → Option α) (r : α) : Prop := ∃ K, ∀ k j i, K ≤ k → K ≤ j → K ≤ i → g k j i = some r
theorem E.now {α : Type} (r : α) : E (fun _ _ _ => some r) r := ⟨0, fun _ _ _ _ _ _ => rfl⟩
theorem e_fin {α : Type} {r r' : α} (e : r = r') : E (fun _ _ _ => some r) r' := e ▸ E.now _
theorem e_eq {α : Type} {g : Nat → Nat → Nat → Option α} {r r' : α} (h : E g r) (e : r = r') : E g r' := e ▸ h
theorem E.bind {α β : Type} {g : Nat → Nat → Nat → Option α} {f : Nat → Nat → Nat → α → Option β} {a : α} {r : β} (h : E g a) (h2 : E (fun k j i => f k j i a) r) : E (fun k j i => (g k j i).bind (f k j i)) r := by
 obtain ⟨K, h⟩ := h
 obtain ⟨K2, h2⟩ := h2
 refine ⟨max K K2, fun k j i a1 a2 a3 => ?_⟩
 show (g k j i).bind _ = _
 rw [h k j i (by omega) (by omega) (by omega), Option.bind_some]
 exact h2 k j i (by omega) (by omega) (by omega)
theorem e_pos {α : Type} {c : Prop} [Decidable c] {A B : Nat → Nat → Nat → Option α} {r : α} (hc : c) (h : E A r) : E (fun k j i => if c then A k j i else B k j i) r := by
 simpa only [if_pos hc] using h
theorem e_neg {α : Type} {c : Prop} [Decidable c] {A B : Nat → Nat → Nat → Option α} {r : α} (hc : ¬ c) (h : E B r) : E (fun k j i => if c then A k j i else B k j i) r := by
 simpa only [if_neg hc] using h
theorem e_ite {α : Type} {c : Prop} [Decidable c] {A B : Nat → Nat → Nat → Option α} {r : α} (h1 : c → E A r) (h2 : ¬ c → E B r) : E (fun k j i => if c then A k j i else B k j i) r := by
 by_cases hc : c
 ·exact e_pos hc (h1 hc)
 ·exact e_neg hc (h2 hc)
theorem e_rec {α : Type} {g : Nat → Nat → Nat → Option α} {r : α} (h : E (fun k j i => g k (j + 1) i) r) : E g r := by
 obtain ⟨K, h⟩ := h
 refine ⟨K + 1, fun k j i a1 a2 a3 => ?_⟩
 obtain ⟨j, rfl⟩ : ∃ j', j = j' + 1 := ⟨j - 1, by omega⟩
 exact h k j i (by omega) (by omega) (by omega)
theorem e_loop {α : Type} {g : Nat → Nat → Nat → Option α} {r : α} (h : E (fun k j i => g k j (i + 1)) r) : E g r := by
 obtain ⟨K, h⟩ := h
 refine ⟨K + 1, fun k j i a1 a2 a3 => ?_⟩
 obtain ⟨i, rfl⟩ : ∃ i', i = i' + 1 := ⟨i - 1, by omega⟩
 exact h k j i (by omega) (by omega) (by omega)
theorem e_use {α : Type} {g : Nat → Nat → Nat → Option α} {r : α} (h : E g r) : E (fun k j _ => g k j k) r := by
 obtain ⟨K, h⟩ := h
 exact ⟨K, fun k j i a1 a2 a3 => h k j k a1 a2 a1⟩
theorem e_fn {α : Type} {g : Nat → Nat → Nat → Option α} {r : α} (h : E g r) : E (fun k _ _ => g k k k) r := by
 obtain ⟨K, h⟩ := h
 exact ⟨K, fun k j i a1 a2 a3 => h k k k a1 a1 a1⟩
theorem e_unique {α : Type} {g : Nat → Nat → Nat → Option α} {r r' : α} (h : E g r) (h' : E g r') : r = r' := by
 obtain ⟨k, h⟩ := h
 obtain ⟨k', h'⟩ := h'
 have h1 := h (max k k') (max k k') (max k k') (by omega) (by omega) (by omega)
 have h2 := h' (max k k') (max k k') (max k k') (by omega) (by omega) (by omega)
 exact Option.some.inj (h1.symm.trans h2)
theorem E.out {α : Type} {g : Nat → Option α} {r : α} (h : E (fun k _ _ => g k) r) : ∃ k, g k = some r := by
 obtain ⟨K, h⟩ := h
 exact ⟨K, h K K K (by omega) (by omega) (by omega)⟩
theorem ofInt_nat {n : Nat} (h : n < 9223372036854775808) : (BitVec.ofInt 64 (n : Int)).toNat = n := by
 rw [BitVec.toNat_ofInt]; omega
theorem and_nat {a b : Nat} (ha : a < 9223372036854775808) (hb : b < 9223372036854775808) : bitsV .and .i64 (a : Int) (b : Int) = ((a &&& b : Nat) : Int) := by
 have h1 : a &&& b ≤ a := Nat.and_le_left
 show IntKind.i64.wrap (((BitVec.ofInt 64 (a : Int) &&& BitVec.ofInt 64 (b : Int)).toNat : Nat) : Int) = _
 rw [BitVec.toNat_and, ofInt_nat ha, ofInt_nat hb, w64 (by omega) (by omega)]
theorem and_mask {x : Int} (h0 : 0 ≤ x) (h1 : x < 9223372036854775808) (i : Nat) (hi : i < 62) : bitsV .and .i64 x ((2 ^ i - 1 : Nat) : Int) = x % ((2 ^ i : Nat) : Int) := by
 obtain ⟨n, rfl⟩ : ∃ n : Nat, x = n := ⟨x.toNat, by omega⟩
 have h2 : 2 ^ i ≤ 2 ^ 61 := Nat.pow_le_pow_right (by omega) (by omega)
 rw [and_nat (by omega) (by omega), Nat.and_two_pow_sub_one_eq_mod]
 rfl
theorem wf_u8 {x : Int} (h : (Lit.int .u8 x).wf = true) : 0 ≤ x ∧ x ≤ 255 := by
 simp [Lit.wf, IntKind.min, IntKind.max, IntKind.bits, IntKind.signed] at h
 omega
def Bytes (l : List Int) : Prop := ∀ x ∈ l, 0 ≤ x ∧ x ≤ 255
theorem getD_byte {l : List Int} (h : Bytes l) (i : Nat) : 0 ≤ l.getD i 0 ∧ l.getD i 0 ≤ 255 := by
 rw [List.getD_eq_getElem?_getD]
 cases e : l[i]? with
 | none => simp
 | some x => exact h x (List.mem_of_getElem? e)
theorem Bytes.drop {l : List Int} (h : Bytes l) (i : Nat) : Bytes (l.drop i) := fun x hx => h x (List.mem_of_mem_drop hx)
theorem Bytes.take {l : List Int} (h : Bytes l) (i : Nat) : Bytes (l.take i) := fun x hx => h x (List.mem_of_mem_take hx)
theorem wbyte {l : List Int} (h : Bytes l) (i : Nat) : IntKind.i64.wrap (l.getD i 0) = l.getD i 0 := by
 have := getD_byte h i
 rw [w64 (by omega) (by omega)]
def isum : List Int → Int
 | [] => 0
 | [a] => a * 256
 | a :: b :: t => a * 256 + b + isum t
def fold (n : Int) : Int := if n = 0 then 0 else (n - 1) % 65535 + 1
theorem fold_small {n : Int} (h0 : 0 ≤ n) (h1 : n ≤ 65535) : fold n = n := by
 unfold fold
 split <;> omega
theorem fold_step {n : Int} (_ : n > 65535) : fold (n % 65536 + n / 65536) = fold n := by
 unfold fold
 split <;> split <;> omega
theorem fold_range {n : Int} (_ : 0 ≤ n) : 0 ≤ fold n ∧ fold n ≤ 65535 := by
 unfold fold
 split <;> omega
theorem isum_range (l : List Int) : Bytes l → 0 ≤ isum l ∧ isum l ≤ 65535 * ((l.length + 1) / 2 : Nat) := by
 induction l using isum.induct with
 | case1 => intro _; simp [isum]
 | case2 a =>
  intro h
  have := h a (by simp)
  simp [isum]
  omega
 | case3 a b t ih =>
  intro h
  have h1 := h a (by simp)
  have h2 := h b (by simp)
  have h3 := ih (fun x hx => h x (by simp [hx]))
  simp only [isum, List.length_cons]
  omega
theorem isum_drop2 (l : List Int) (i : Nat) (h : i + 1 < l.length) : isum (l.drop i) = l.getD i 0 * 256 + l.getD (i + 1) 0 + isum (l.drop (i + 2)) := by
 rw [List.drop_eq_getElem_cons (by omega), List.drop_eq_getElem_cons (by omega)]
 simp [isum, List.getD_eq_getElem?_getD, List.getElem?_eq_getElem h, List.getElem?_eq_getElem (show i < l.length by omega)]
theorem isum_drop1 (l : List Int) (i : Nat) (h : i + 1 = l.length) : isum (l.drop i) = l.getD i 0 * 256 := by
 rw [List.drop_eq_getElem_cons (by omega), List.drop_eq_nil_of_le (by omega)]
 simp [isum, List.getD_eq_getElem?_getD, List.getElem?_eq_getElem (show i < l.length by omega)]
theorem isum_drop0 (l : List Int) (i : Nat) (h : l.length ≤ i) : isum (l.drop i) = 0 := by
 rw [List.drop_eq_nil_of_le h]
 rfl
def csum (l : List Int) : Int := 65535 - fold (isum l)
theorem csum_range {l : List Int} (h : Bytes l) : 0 ≤ csum l ∧ csum l ≤ 65535 := by
 have := fold_range (isum_range l h).1
 unfold csum
 omega
theorem specFold (k : Nat) : ∀ (d j : Nat) (n : Int), 0 ≤ n → n ≤ 4611686018427387903 → n ≤ 65535 + d → d < j → f113.l8 k j n = some (fold n) := by
 intro d
 induction d with
 | zero =>
  intro j n h0 h1 h2 hj
  obtain ⟨j, rfl⟩ : ∃ j', j = j' + 1 := ⟨j - 1, by omega⟩
  simp only [f113.l8, f113.l8.step]
  rw [if_neg (fb (by omega)), fold_small h0 (by omega)]
 | succ d ih =>
  intro j n h0 h1 h2 hj
  obtain ⟨j, rfl⟩ : ∃ j', j = j' + 1 := ⟨j - 1, by omega⟩
  simp only [f113.l8, f113.l8.step]
  by_cases c : n > 65535
  ·have e : IntKind.i64.wrap (Int.tmod n 65536 + IntKind.i64.wrap (Int.tdiv n 65536)) = n % 65536 + n / 65536 := by
    rw [Int.tmod_eq_emod_of_nonneg h0, Int.tdiv_eq_ediv_of_nonneg h0, w64 (n := n / 65536) (by omega) (by omega), w64 (by omega) (by omega)]
   rw [if_pos (tb c), e, ih j _ (by omega) (by omega) (by omega) (by omega), fold_step c]
  ·rw [if_neg (fb c), fold_small h0 (by omega)]
theorem implFold (k : Nat) : ∀ (d j : Nat) (n : Int), 0 ≤ n → n ≤ 4611686018427387903 → n ≤ 65535 + d → d < j → f173.l8 k j n = some (fold n) := by
 intro d
 induction d with
 | zero =>
  intro j n h0 h1 h2 hj
  obtain ⟨j, rfl⟩ : ∃ j', j = j' + 1 := ⟨j - 1, by omega⟩
  simp only [f173.l8, f173.l8.step]
  rw [if_neg (fb (by omega)), fold_small h0 (by omega)]
 | succ d ih =>
  intro j n h0 h1 h2 hj
  obtain ⟨j, rfl⟩ : ∃ j', j = j' + 1 := ⟨j - 1, by omega⟩
  simp only [f173.l8, f173.l8.step]
  by_cases c : n > 65535
  ·have e : IntKind.i64.wrap (bitsV .and .i64 n 65535 + Int.fdiv n (2 ^ (min (Int.toNat 16) IntKind.i64.bits))) = n % 65536 + n / 65536 := by
    have m : bitsV .and .i64 n 65535 = n % 65536 := and_mask h0 (by omega) 16 (by omega)
    have q : (2 ^ (min (Int.toNat 16) IntKind.i64.bits) : Int) = 65536 := by decide
    rw [m, q, Int.fdiv_eq_ediv_of_nonneg _ (by omega), w64 (by omega) (by omega)]
   rw [if_pos (tb c), e, ih j _ (by omega) (by omega) (by omega) (by omega), fold_step c]
  ·rw [if_neg (fb c), fold_small h0 (by omega)]
theorem specSum_loop (k : Nat) (l : List Int) (hb : Bytes l) (hl : l.length ≤ 1000000) : ∀ (d j i : Nat) (s : Int), l.length ≤ i + d → i % 2 = 0 → 2 * d < j → 0 ≤ s → s ≤ 65535 * i → f113.l3 k j l s i = some (s + isum (l.drop i)) := by
 intro d
 induction d using Nat.strongRecOn with
 | _ d ih =>
  intro j i s hd h2 hj h0 h1
  obtain ⟨j, rfl⟩ : ∃ j', j = j' + 1 := ⟨j - 1, by omega⟩
  by_cases c : i < l.length
  ·have b1 := getD_byte hb i
   have hm : Int.tmod (i : Int) 2 = 0 := by rw [Int.tmod_eq_emod_of_nonneg (by omega)]; omega
   have w1 : IntKind.i64.wrap (l.getD i 0 * 256) = l.getD i 0 * 256 := w64 (by omega) (by omega)
   have w2 : IntKind.i64.wrap (s + l.getD i 0 * 256) = s + l.getD i 0 * 256 := w64 (by omega) (by omega)
   have w3 : IntKind.i64.wrap ((i : Int) + 1) = ((i + 1 : Nat) : Int) := by rw [w64 (by omega) (by omega)]; omega
   have e1 : f113.l3 k (j + 1) l s i = f113.l3 k j l (s + l.getD i 0 * 256) ((i + 1 : Nat) : Int) := by
    simp only [f113.l3, f113.l3.step, Int.toNat_natCast, wbyte hb, w1, w2, w3]
    rw [if_pos (tb (by omega)), if_pos (tb hm), if_pos (by omega), if_pos (by omega)]
   rw [e1]
   obtain ⟨j, rfl⟩ : ∃ j', j = j' + 1 := ⟨j - 1, by omega⟩
   by_cases c2 : i + 1 < l.length
   ·have b2 := getD_byte hb (i + 1)
    have hm2 : ¬ Int.tmod ((i + 1 : Nat) : Int) 2 = 0 := by rw [Int.tmod_eq_emod_of_nonneg (by omega)]; omega
    have w4 : IntKind.i64.wrap (s + l.getD i 0 * 256 + l.getD (i + 1) 0) = s + l.getD i 0 * 256 + l.getD (i + 1) 0 := w64 (by omega) (by omega)
    have w5 : IntKind.i64.wrap (((i + 1 : Nat) : Int) + 1) = ((i + 2 : Nat) : Int) := by rw [w64 (by omega) (by omega)]; omega
    simp only [f113.l3, f113.l3.step, Int.toNat_natCast, wbyte hb, w4, w5]
    rw [if_pos (tb (by omega)), if_neg (fb hm2), if_pos (by omega), if_pos (by omega)]
    refine (ih (d - 2) (by omega) j (i + 2) _ (by omega) (by omega) (by omega) (by omega) (by omega)).trans ?_
    rw [isum_drop2 l i c2, Int.add_assoc, Int.add_assoc, Int.add_assoc]
   ·simp only [f113.l3, f113.l3.step]
    rw [if_neg (fb (by omega)), isum_drop1 l i (by omega)]
  ·simp only [f113.l3, f113.l3.step]
   rw [if_neg (fb (by omega)), isum_drop0 l i (by omega), Int.add_zero]
theorem implSum_loop (k : Nat) (l : List Int) (hb : Bytes l) (hl : l.length ≤ 1000000) : ∀ (d j i : Nat) (s : Int), l.length ≤ i + d → i % 2 = 0 → d < j → 0 ≤ s → s ≤ 65535 * i → f173.l3 k j l s i = some (s + isum (l.drop i)) := by
 intro d
 induction d using Nat.strongRecOn with
 | _ d ih =>
  intro j i s hd h2 hj h0 h1
  obtain ⟨j, rfl⟩ : ∃ j', j = j' + 1 := ⟨j - 1, by omega⟩
  have q : (2 ^ (min (Int.toNat 8) IntKind.i64.bits) : Int) = 256 := by decide
  by_cases c : i < l.length
  ·have b1 := getD_byte hb i
   have w1 : IntKind.i64.wrap (l.getD i 0 * 256) = l.getD i 0 * 256 := w64 (by omega) (by omega)
   have w2 : IntKind.i64.wrap (s + l.getD i 0 * 256) = s + l.getD i 0 * 256 := w64 (by omega) (by omega)
   have w3 : IntKind.i64.wrap ((i : Int) + 1) = ((i + 1 : Nat) : Int) := by rw [w64 (by omega) (by omega)]; omega
   have w5 : IntKind.i64.wrap ((i : Int) + 2) = ((i + 2 : Nat) : Int) := by rw [w64 (by omega) (by omega)]; omega
   by_cases c2 : i + 1 < l.length
   ·have b2 := getD_byte hb (i + 1)
    have w4 : IntKind.i64.wrap (s + l.getD i 0 * 256 + l.getD (i + 1) 0) = s + l.getD i 0 * 256 + l.getD (i + 1) 0 := w64 (by omega) (by omega)
    simp only [f173.l3, f173.l3.step, q, w3, w5, Int.toNat_natCast, wbyte hb, w1, w2, w4]
    rw [if_pos (tb (by omega)), if_pos (by omega), if_pos (by omega), if_pos (tb (by omega)), if_pos (by omega), if_pos (by omega)]
    refine (ih (d - 2) (by omega) j (i + 2) _ (by omega) (by omega) (by omega) (by omega) (by omega)).trans ?_
    rw [isum_drop2 l i c2, Int.add_assoc, Int.add_assoc, Int.add_assoc]
   ·simp only [f173.l3, f173.l3.step, q, w3, w5, Int.toNat_natCast, wbyte hb, w1, w2]
    rw [if_pos (tb (by omega)), if_pos (by omega), if_pos (by omega), if_neg (fb (by omega))]
    refine (ih (d - 1) (by omega) j (i + 2) _ (by omega) (by omega) (by omega) (by omega) (by omega)).trans ?_
    rw [isum_drop1 l i (by omega), isum_drop0 l (i + 2) (by omega), Int.add_zero]
  ·simp only [f173.l3, f173.l3.step]
   rw [if_neg (fb (by omega)), isum_drop0 l i (by omega), Int.add_zero]
theorem specSum {k : Nat} (hK : 2097152 ≤ k) {l : List Int} (hb : Bytes l) (hl : l.length ≤ 60) : f113 k l = some (csum l) := by
 have hr := isum_range l hb
 have e1 : f113.l3 k k l 0 0 = some (isum l) := by have := specSum_loop k l hb (by omega) l.length k 0 0 (by omega) rfl (by omega) (by omega) (by omega); simpa using this
 have e2 := specFold k 2031585 k (isum l) hr.1 (by omega) (by omega) (by omega)
 have hf := fold_range hr.1
 simp only [f113, f113.step, e1, e2, Option.bind_some, csum]
 rw [w64 (by omega) (by omega)]
theorem implSum {k : Nat} (hK : 2097152 ≤ k) {l : List Int} (hb : Bytes l) (hl : l.length ≤ 60) : f114 k l = some (csum l) := by
 have hr := isum_range l hb
 have e1 : f173.l3 k k l 0 0 = some (isum l) := by have := implSum_loop k l hb (by omega) l.length k 0 0 (by omega) rfl (by omega) (by omega) (by omega); simpa using this
 have e2 := implFold k 2031585 k (isum l) hr.1 (by omega) (by omega) (by omega)
 have hf := fold_range hr.1
 simp only [f114, f114.step, f173, f173.step, e1, e2, Option.bind_some, csum]
 rw [w64 (by omega) (by omega)]
theorem in_spec (k : Nat) (a b c : Int) : f61 k a b c = some (decide (b ≤ a ∧ a ≤ c)) := by
 simp only [f61, f61.step]
 split <;> simp at * <;> omega
theorem in_impl (k : Nat) (a b c : Int) : f63 k a b c = some (decide (b ≤ a ∧ a ≤ c)) := by
 simp only [f63, f63.step]
 split <;> simp at * <;> omega
def PkOK (v : Int) (from_ to : ByteArray) (hop proto id off : Int) (more keep : Bool) (n : Nat) : Prop :=
 (0 ≤ hop ∧ hop ≤ 255) ∧ (0 ≤ proto ∧ proto ≤ 255) ∧ n ≤ 1500 ∧
  ((v = 4 ∧ from_.size = 4 ∧ to.size = 4 ∧ (0 ≤ id ∧ id ≤ 65535) ∧ (0 ≤ off ∧ off ≤ 8191) ∧ (keep = true → more = false ∧ off = 0) ∧ (more = true → n % 8 = 0 ∧ 0 < n) ∧ 8 * off + n ≤ 65515) ∨
   (v = 6 ∧ from_.size = 16 ∧ to.size = 16 ∧ id = 0 ∧ off = 0 ∧ more = false ∧ keep = false))
instance (v : Int) (from_ to : ByteArray) (hop proto id off : Int) (more keep : Bool) (n : Nat) : Decidable (PkOK v from_ to hop proto id off more keep n) := by unfold PkOK; infer_instance
theorem tm8 (n : Nat) : Int.tmod (n : Int) 8 = ((n % 8 : Nat) : Int) := by rw [Int.tmod_eq_emod_of_nonneg (by omega)]; rfl
theorem wsum {off : Int} {n : Nat} (h : 0 ≤ off ∧ off ≤ 8191) (hn : n ≤ 1500) : IntKind.i64.wrap (IntKind.i64.wrap (8 * off) + (n : Int)) = 8 * off + n := by rw [w64 (n := 8 * off) (by omega) (by omega), w64 (by omega) (by omega)]
theorem pk_impl (k : Nat) (v : Int) (from_ to : ByteArray) (hop proto id off : Int) (more keep : Bool) (xs : List Int) : f44 k v from_ to hop proto id off more keep xs = some (decide (PkOK v from_ to hop proto id off more keep xs.length)) := by
 simp only [f44, f44.step, in_impl, Option.bind_some, tm8, PkOK]
 by_cases h1 : 0 ≤ hop ∧ hop ≤ 255
 case neg => simp [h1]
 by_cases h2 : 0 ≤ proto ∧ proto ≤ 255
 case neg => simp [h1, h2]
 by_cases h3 : xs.length ≤ 1500
 case neg =>
  have : ((xs.length : Int) > 1500) := by omega
  simp [h1, h2, h3, this]
 have h3' : ¬ ((xs.length : Int) > 1500) := by omega
 by_cases h4 : v = 4
 ·subst h4
  by_cases h5 : from_.size = 4
  case neg =>
   have : ¬ ((from_.size : Int) = 4) := by omega
   simp [h1, h2, h3, h3', h5, this]
  by_cases h6 : to.size = 4
  case neg =>
   have : ¬ ((to.size : Int) = 4) := by omega
   simp [h1, h2, h3, h3', h5, h6, this]
  by_cases h7 : 0 ≤ id ∧ id ≤ 65535
  case neg => simp [h1, h2, h3, h3', h5, h6, h7]
  by_cases h8 : 0 ≤ off ∧ off ≤ 8191
  case neg => simp [h1, h2, h3, h3', h5, h6, h7, h8]
  simp only [wsum h8 h3]
  simp [-List.length_eq_zero_iff, h1, h2, h3, h3', h5, h6, h7, h8]
  cases keep <;> cases more <;> simp [-List.length_eq_zero_iff]
  ·rcases Nat.eq_zero_or_pos xs.length with q1 | q1
   ·simp [-List.length_eq_zero_iff, q1]
   ·by_cases q2 : xs.length % 8 = 0 <;> simp [-List.length_eq_zero_iff, Nat.ne_of_gt q1, q1, q2] <;> omega
  ·by_cases q0 : off = 0
   ·subst q0; simp
   ·have : ¬ off ≤ 0 := by omega
    simp [q0, this]
 ·simp [h1, h2, h3, h3', h4]
  by_cases g1 : v = 6
  case neg => simp [g1]
  by_cases g2 : from_.size = 16
  case neg =>
   have : ¬ ((from_.size : Int) = 16) := by omega
   simp [g2, this]
  by_cases g3 : to.size = 16
  case neg =>
   have : ¬ ((to.size : Int) = 16) := by omega
   simp [g3, this]
  by_cases g4 : id = 0 <;> by_cases g5 : off = 0 <;> cases more <;> cases keep <;> simp [g1, g2, g3, g4, g5]
theorem pk_spec (k : Nat) (v : Int) (from_ to : ByteArray) (hop proto id off : Int) (more keep : Bool) (xs : List Int) : f60 k v from_ to hop proto id off more keep xs = some (decide (PkOK v from_ to hop proto id off more keep xs.length)) := by
 simp only [f60, f60.step, in_spec, Option.bind_some, tm8, PkOK]
 by_cases h1 : 0 ≤ hop ∧ hop ≤ 255
 case neg => simp [h1]
 by_cases h2 : 0 ≤ proto ∧ proto ≤ 255
 case neg => simp [h1, h2]
 by_cases h3 : xs.length ≤ 1500
 case neg =>
  have : ((xs.length : Int) > 1500) := by omega
  simp [h1, h2, h3, this]
 have h3' : ¬ ((xs.length : Int) > 1500) := by omega
 by_cases h4 : v = 4
 ·subst h4
  by_cases h5 : from_.size = 4
  case neg =>
   have : ¬ ((from_.size : Int) = 4) := by omega
   simp [h1, h2, h3, h3', h5, this]
  by_cases h6 : to.size = 4
  case neg =>
   have : ¬ ((to.size : Int) = 4) := by omega
   simp [h1, h2, h3, h3', h5, h6, this]
  by_cases h7 : 0 ≤ id ∧ id ≤ 65535
  case neg => simp [h1, h2, h3, h3', h5, h6, h7]
  by_cases h8 : 0 ≤ off ∧ off ≤ 8191
  case neg => simp [h1, h2, h3, h3', h5, h6, h7, h8]
  simp only [wsum h8 h3]
  simp [-List.length_eq_zero_iff, h1, h2, h3, h3', h5, h6, h7, h8]
  cases keep <;> cases more <;> simp [-List.length_eq_zero_iff]
  ·rcases Nat.eq_zero_or_pos xs.length with q1 | q1
   ·simp [-List.length_eq_zero_iff, q1]
   ·by_cases q2 : xs.length % 8 = 0 <;> simp [-List.length_eq_zero_iff, Nat.ne_of_gt q1, q1, q2] <;> omega
  ·by_cases q0 : off = 0
   ·subst q0; simp
   ·have : ¬ off ≤ 0 := by omega
    simp [q0, this]
 ·simp [h1, h2, h3, h3', h4]
  by_cases g1 : v = 6
  case neg => simp [g1]
  by_cases g2 : from_.size = 16
  case neg =>
   have : ¬ ((from_.size : Int) = 16) := by omega
   simp [g2, this]
  by_cases g3 : to.size = 16
  case neg =>
   have : ¬ ((to.size : Int) = 16) := by omega
   simp [g3, this]
  by_cases g4 : id = 0 <;> by_cases g5 : off = 0 <;> cases more <;> cases keep <;> simp [g1, g2, g3, g4, g5]
theorem strOf_size (xs : List Int) : (strOf xs).size = xs.length := by simp [strOf, ByteArray.size]
theorem bytesOf_length (s : ByteArray) : (bytesOf s).length = s.size := by simp [bytesOf]
theorem bytesOf_bytes (s : ByteArray) : Bytes (bytesOf s) := fun x hx => by
 obtain ⟨b, _, rfl⟩ := List.mem_map.mp hx
 have := b.toNat_lt; omega
theorem bytesOf_strOf {xs : List Int} (h : Bytes xs) : bytesOf (strOf xs) = xs := by
 simp only [bytesOf, strOf, List.map_map]
 rw [List.map_congr_left (g := id) fun x hx => ?_, List.map_id]
 have := h x hx
 simp [UInt8.toNat_ofNat]; omega
theorem wu8 (x : Int) : 0 ≤ IntKind.u8.wrap x ∧ IntKind.u8.wrap x ≤ 255 := by rw [IntKind.wrap_u8]; omega
theorem wu8_eq {x : Int} (h : 0 ≤ x ∧ x ≤ 255) : IntKind.u8.wrap x = x := by rw [IntKind.wrap_u8]; omega
theorem Bytes.append {a b : List Int} (ha : Bytes a) (hb : Bytes b) : Bytes (a ++ b) := fun x hx => (List.mem_append.mp hx).elim (ha x) (hb x)
theorem Bytes.snoc {a : List Int} (ha : Bytes a) {x : Int} (hx : 0 ≤ x ∧ x ≤ 255) : Bytes (a ++ [x]) := ha.append fun y hy => by simp at hy; omega
theorem Bytes.cons {a : List Int} (ha : Bytes a) {x : Int} (hx : 0 ≤ x ∧ x ≤ 255) : Bytes (x :: a) := fun y hy => by
 rcases List.mem_cons.mp hy with rfl | h
 ·exact hx
 ·exact ha y h
theorem Bytes.set {a : List Int} (ha : Bytes a) (i : Nat) {x : Int} (hx : 0 ≤ x ∧ x ≤ 255) : Bytes (a.set i x) := fun y hy => by
 rcases List.mem_or_eq_of_mem_set hy with h | rfl
 ·exact ha y h
 ·exact hx
structure GS (xs : List Int) (a s : Int) (n : Nat) : Prop where
 len : xs.length ≤ 1048576
 b : Bytes xs
 a0 : 0 ≤ a
 a1 : a ≤ n
 s0 : 0 ≤ s
 s1 : s < 2147483648
theorem GS.to {xs : List Int} {a s : Int} {n n' : Nat} (h : GS xs a s n) (hn : n ≤ n') : GS xs a s n' := ⟨h.len, h.b, h.a0, by have := h.a1; omega, h.s0, h.s1⟩
theorem byte_ok (k : Nat) {xs : List Int} {a s : Int} {n : Nat} (h : GS xs a s n) (hn : n ≤ 100000) : ∃ v a' s', f185 k xs a s = some (v, xs, a', s') ∧ (0 ≤ v ∧ v ≤ 255) ∧ GS xs a' s' (n + 1) := by
 obtain ⟨h0, h1, h2, h3, h4, h5⟩ := h
 have e1 : IntKind.i64.wrap (a + 1) = a + 1 := w64 (by omega) (by omega)
 simp only [f185, f185.step, e1]
 by_cases c : a + 1 ≤ (xs.length : Int)
 ·have e2 : IntKind.i64.wrap (a + 1 - 1) = a := by rw [w64 (by omega) (by omega)]; omega
  have hb := getD_byte h1 a.toNat
  rw [if_pos (tb c), e2, if_pos (by omega), if_pos (by omega), if_pos (by omega), if_pos (by omega)]
  refine ⟨_, _, _, rfl, ?_, h0, h1, by omega, by omega, ?_, ?_⟩
  ·rw [w64 (by omega) (by omega)]; exact hb
  ·rw [w64 (n := xs.getD a.toNat 0) (by omega) (by omega), w64 (n := s * 31) (by omega) (by omega), w64 (n := s * 31 + _) (by omega) (by omega), w64 (by omega) (by omega), Int.tmod_eq_emod_of_nonneg (by omega)]
   omega
  ·rw [w64 (n := xs.getD a.toNat 0) (by omega) (by omega), w64 (n := s * 31) (by omega) (by omega), w64 (n := s * 31 + _) (by omega) (by omega), w64 (by omega) (by omega), Int.tmod_eq_emod_of_nonneg (by omega)]
   omega
 ·rw [if_neg (fb c)]
  by_cases c2 : a + 1 > 3000
  ·rw [if_pos (tb c2)]
   exact ⟨_, _, _, rfl, by omega, h0, h1, by omega, by omega, h4, h5⟩
  ·rw [if_neg (fb c2)]
   have e3 : IntKind.i64.wrap (s * 1103515245) = s * 1103515245 := w64 (by omega) (by omega)
   have e4 : IntKind.i64.wrap (s * 1103515245 + 12345) = s * 1103515245 + 12345 := w64 (by omega) (by omega)
   have e5 : Int.tmod (s * 1103515245 + 12345) 2147483648 = (s * 1103515245 + 12345) % 2147483648 := Int.tmod_eq_emod_of_nonneg (by omega)
   rw [e3, e4, e5]
   have h6 : 0 ≤ (s * 1103515245 + 12345) % 2147483648 ∧ (s * 1103515245 + 12345) % 2147483648 < 2147483648 := by omega
   generalize (s * 1103515245 + 12345) % 2147483648 = z at h6
   have e6 : Int.tdiv z 65536 = z / 65536 := Int.tdiv_eq_ediv_of_nonneg h6.1
   rw [e6, w64 (by omega) (by omega), Int.tmod_eq_emod_of_nonneg (by omega)]
   exact ⟨_, _, _, rfl, by omega, h0, h1, by omega, by omega, h6.1, h6.2⟩
theorem next_ok (k : Nat) {xs : List Int} {a s : Int} {n : Nat} (h : GS xs a s n) (hn : n ≤ 90000) {N : Int} (h1 : 1 ≤ N) (h2 : N ≤ 65536) : ∃ v a' s', f139 k xs a s N = some (v, xs, a', s') ∧ (0 ≤ v ∧ v < N) ∧ GS xs a' s' (n + 3) := by
 simp only [f139, f139.step]
 by_cases c : N ≤ 1
 ·rw [if_pos (tb c)]
  exact ⟨_, _, _, rfl, by omega, h.to (by omega)⟩
 ·rw [if_neg (fb c)]
  by_cases c2 : N ≤ 256
  ·obtain ⟨v, a', s', e, hv, g⟩ := byte_ok k h (by omega)
   rw [if_pos (tb c2), e]
   simp only [Option.bind_some]
   rw [if_pos (by omega), Int.tmod_eq_emod_of_nonneg hv.1]
   exact ⟨_, _, _, rfl, ⟨Int.emod_nonneg _ (by omega), Int.emod_lt_of_pos _ (by omega)⟩, g.to (by omega)⟩
  ·obtain ⟨v1, a1, s1, e1, hv1, g1⟩ := byte_ok k h (by omega)
   obtain ⟨v2, a2, s2, e2, hv2, g2⟩ := byte_ok k g1 (by omega)
   obtain ⟨v3, a3, s3, e3, hv3, g3⟩ := byte_ok k g2 (by omega)
   rw [if_neg (fb c2), e1]
   simp only [Option.bind_some, e2, e3]
   rw [if_pos (by omega), w64 (n := v1 * 65536) (by omega) (by omega), w64 (n := v2 * 256) (by omega) (by omega), w64 (n := v1 * 65536 + v2 * 256) (by omega) (by omega), w64 (by omega) (by omega), Int.tmod_eq_emod_of_nonneg (by omega)]
   exact ⟨_, _, _, rfl, ⟨Int.emod_nonneg _ (by omega), Int.emod_lt_of_pos _ (by omega)⟩, g3⟩
theorem six_loop (k : Nat) : ∀ (d j n : Nat) (i : Int) (xs : List Int) (a s : Int) (out : List Int), i ≤ d → 0 ≤ i → d < j → GS xs a s n → n + 6 * d ≤ 80000 → out.length = 16 → ∃ a' s' out', f168.l5 k j i xs a s out = some (xs, a', s', out') ∧ GS xs a' s' (n + 6 * d) ∧ out'.length = 16 := by
 intro d
 induction d with
 | zero =>
  intro j n i xs a s out hi h0 hj g hn ho
  obtain ⟨j, rfl⟩ : ∃ j', j = j' + 1 := ⟨j - 1, by omega⟩
  simp only [f168.l5, f168.l5.step]
  rw [if_neg (fb (by omega))]
  exact ⟨_, _, _, rfl, g.to (by omega), ho⟩
 | succ d ih =>
  intro j n i xs a s out hi h0 hj g hn ho
  obtain ⟨j, rfl⟩ : ∃ j', j = j' + 1 := ⟨j - 1, by omega⟩
  simp only [f168.l5, f168.l5.step]
  by_cases c : i > 0
  ·obtain ⟨v1, a1, s1, e1, hv1, g1⟩ := next_ok k g (by omega) (N := 16) (by omega) (by omega)
   obtain ⟨v2, a2, s2, e2, hv2, g2⟩ := next_ok k g1 (by omega) (N := 256) (by omega) (by omega)
   rw [if_pos (tb c), e1]
   simp only [Option.bind_some, e2]
   rw [if_pos (by omega), if_pos (by omega), w64 (by omega) (by omega)]
   obtain ⟨a', s', out', e, g', ho'⟩ := ih j (n + 6) (i - 1) xs a2 s2 (out.set v1.toNat (IntKind.u8.wrap v2)) (by omega) (by omega) (by omega) (g2.to (by omega)) (by omega) (by simpa using ho)
   exact ⟨a', s', out', e, g'.to (by omega), ho'⟩
  ·rw [if_neg (fb c)]
   exact ⟨_, _, _, rfl, g.to (by omega), ho⟩
theorem addr6_ok {k : Nat} (hK : 2097152 ≤ k) {xs : List Int} {a s : Int} {n : Nat} (g : GS xs a s n) (hn : n ≤ 70000) : ∃ t a' s', f168 k xs a s = some (t, xs, a', s') ∧ GS xs a' s' (n + 30) ∧ t.size = 16 := by
 obtain ⟨v1, a1, s1, e1, hv1, g1⟩ := next_ok k g (by omega) (N := 2) (by omega) (by omega)
 obtain ⟨v2, a2, s2, e2, hv2, g2⟩ := next_ok k g1 (by omega) (N := 4) (by omega) (by omega)
 obtain ⟨a', s', out', e, g', ho⟩ := six_loop k 4 k (n + 6) v2 xs a2 s2 (List.set (List.set (List.replicate 16 0) 0 32) 1 (IntKind.u8.wrap v1)) (by omega) hv2.1 (by omega) g2 (by omega) (by simp)
 simp only [f168, f168.step, e1, Option.bind_some, e2]
 rw [if_pos (by decide), if_pos (by decide), e]
 exact ⟨_, _, _, rfl, g'.to (by omega), by rw [strOf_size, ho]⟩
theorem bytes_loop (k : Nat) : ∀ (d j n : Nat) (i : Int) (xs : List Int) (a s : Int) (out : List Int), i ≤ d → 0 ≤ i → d < j → GS xs a s n → n + 3 * d ≤ 80000 → out.length + d ≤ 1000 → Bytes out → ∃ a' s' out', f169.l3 k j i xs a s out = some (xs, a', s', out') ∧ GS xs a' s' (n + 3 * d) ∧ out'.length ≤ out.length + d ∧ Bytes out' := by
 intro d
 induction d with
 | zero =>
  intro j n i xs a s out hi h0 hj g hn ho hB
  obtain ⟨j, rfl⟩ : ∃ j', j = j' + 1 := ⟨j - 1, by omega⟩
  simp only [f169.l3, f169.l3.step]
  rw [if_neg (fb (by omega))]
  exact ⟨_, _, _, rfl, g.to (by omega), by omega, hB⟩
 | succ d ih =>
  intro j n i xs a s out hi h0 hj g hn ho hB
  obtain ⟨j, rfl⟩ : ∃ j', j = j' + 1 := ⟨j - 1, by omega⟩
  simp only [f169.l3, f169.l3.step]
  by_cases c : i > 0
  ·obtain ⟨v1, a1, s1, e1, hv1, g1⟩ := next_ok k g (by omega) (N := 256) (by omega) (by omega)
   rw [if_pos (tb c), e1]
   simp only [Option.bind_some]
   rw [if_pos (by simp [maxN]; omega), w64 (by omega) (by omega)]
   obtain ⟨a', s', out', e, g', hl, hB'⟩ := ih j (n + 3) (i - 1) xs a1 s1 (out ++ [IntKind.u8.wrap v1]) (by omega) (by omega) (by omega) g1 (by omega) (by simp; omega) (hB.snoc (wu8 _))
   exact ⟨a', s', out', e, g'.to (by omega), by simp at hl; omega, hB'⟩
  ·rw [if_neg (fb c)]
   exact ⟨_, _, _, rfl, g.to (by omega), by omega, hB⟩
theorem bytes_ok {k : Nat} (hK : 2097152 ≤ k) {xs : List Int} {a s : Int} {n : Nat} (g : GS xs a s n) (hn : n ≤ 70000) : ∃ t a' s', f169 k xs a s 40 = some (t, xs, a', s') ∧ GS xs a' s' (n + 130) ∧ t.length ≤ 40 ∧ Bytes t := by
 have hw : IntKind.i64.wrap (40 + 1) = 41 := w64 (by omega) (by omega)
 obtain ⟨v1, a1, s1, e1, hv1, g1⟩ := next_ok k g (by omega) (N := 41) (by omega) (by omega)
 obtain ⟨a', s', out', e, g', hl, hB⟩ := bytes_loop k 40 k (n + 3) v1 xs a1 s1 [] (by omega) hv1.1 (by omega) g1 (by omega) (by simp) (by intro x hx; cases hx)
 simp only [f169, f169.step, hw, e1, Option.bind_some, e]
 exact ⟨_, _, _, rfl, g'.to (by omega), by simpa using hl, hB⟩
theorem chance_ok (k : Nat) {xs : List Int} {a s : Int} {n : Nat} (g : GS xs a s n) (hn : n ≤ 70000) {N : Int} (h1 : 1 ≤ N) (h2 : N ≤ 65536) : ∃ t a' s', f170 k xs a s N = some (t, xs, a', s') ∧ GS xs a' s' (n + 3) := by
 obtain ⟨v1, a1, s1, e1, hv1, g1⟩ := next_ok k g (by omega) h1 h2
 simp only [f170, f170.step, e1, Option.bind_some]
 exact ⟨_, _, _, rfl, g1⟩
theorem addr4_ok (k : Nat) {xs : List Int} {a s : Int} {n : Nat} (g : GS xs a s n) (hn : n ≤ 70000) : ∃ t a' s', f167 k xs a s = some (t, xs, a', s') ∧ GS xs a' s' (n + 9) ∧ t.size = 4 := by
 obtain ⟨v1, a1, s1, e1, hv1, g1⟩ := next_ok k g (by omega) (N := 3) (by omega) (by omega)
 obtain ⟨v2, a2, s2, e2, hv2, g2⟩ := next_ok k g1 (by omega) (N := 2) (by omega) (by omega)
 obtain ⟨v3, a3, s3, e3, hv3, g3⟩ := next_ok k g2 (by omega) (N := 4) (by omega) (by omega)
 simp only [f167, f167.step, e1, Option.bind_some, e2, e3]
 exact ⟨_, _, _, rfl, g3, rfl⟩
def PK (xs : List Int) (n : Nat) (t : Int × ByteArray × ByteArray × Int × Int × Int × Int × Bool × Bool × List Int × List Int × Int × Int) : Prop :=
 PkOK t.1 t.2.1 t.2.2.1 t.2.2.2.1 t.2.2.2.2.1 t.2.2.2.2.2.1 t.2.2.2.2.2.2.1 t.2.2.2.2.2.2.2.1 t.2.2.2.2.2.2.2.2.1 t.2.2.2.2.2.2.2.2.2.1.length ∧ Bytes t.2.2.2.2.2.2.2.2.2.1 ∧ t.2.2.2.2.2.2.2.2.2.1.length ≤ 1440 ∧ t.2.2.2.2.2.2.2.2.2.2.1 = xs ∧ GS xs t.2.2.2.2.2.2.2.2.2.2.2.1 t.2.2.2.2.2.2.2.2.2.2.2.2 n
theorem packet_ok {k : Nat} (hK : 2097152 ≤ k) {xs : List Int} {a s : Int} {n : Nat} (g : GS xs a s n) (hn : n ≤ 60000) : ∃ t, f101 k xs a s = some t ∧ PK xs (n + 300) t := by
 obtain ⟨u1, a1, s1, e1, g1, z1⟩ := addr6_ok hK g (by omega)
 obtain ⟨u2, a2, s2, e2, g2, z2⟩ := addr6_ok hK g1 (by omega)
 obtain ⟨v3, a3, s3, e3, hv3, g3⟩ := next_ok k g2 (by omega) (N := 4) (by omega) (by omega)
 obtain ⟨v4, a4, s4, e4, hv4, g4⟩ := next_ok k g3 (by omega) (N := 256) (by omega) (by omega)
 obtain ⟨d, a5, s5, e5, g5, hd, hdB⟩ := bytes_ok hK g4 (by omega)
 obtain ⟨b6, a6, s6, e6, g6⟩ := chance_ok k g5 (by omega) (N := 3) (by omega) (by omega)
 have hhop : 0 ≤ List.getD ([64, 1, 0, 255] : List Int) v3.toNat 0 ∧ List.getD ([64, 1, 0, 255] : List Int) v3.toNat 0 ≤ 255 := getD_byte (by intro x hx; simp at hx; omega) _
 simp only [f101, f101.step, e1, Option.bind_some, e2, e3, e4, e5, e6]
 rw [if_pos hv3.1, if_pos (by simpa using hv3.2)]
 have rest : ∀ (d : List Int) (a7 s7 : Int), d.length ≤ 1440 → Bytes d → GS xs a7 s7 (n + 240) → ∃ t, ((f170 k xs a7 s7 2).bind fun t17 => if t17.1 = true then
   (f167 k t17.2.1 t17.2.2.1 t17.2.2.2).bind fun t18 => (f167 k t18.2.1 t18.2.2.1 t18.2.2.2).bind fun t19 => (f139 k t19.2.1 t19.2.2.1 t19.2.2.2 65536).bind fun t20 => (f139 k t20.2.1 t20.2.2.1 t20.2.2.2 4).bind fun t21 => if decide (t21.1 = 0) = true then
    some ((4 : Int), t18.1, t19.1, (List.getD ([64, 1, 0, 255] : List Int) v3.toNat 0), v4, t20.1, (0 : Int), false, true, d, t21.2.1, t21.2.2.1, t21.2.2.2)
   else if decide (t21.1 = 1) = true then
    (f139 k t21.2.1 t21.2.2.1 t21.2.2.2 20).bind fun t22 => if decide ((Int.tmod (d.length : Int) 8) = 0) = true then
     some ((4 : Int), t18.1, t19.1, (List.getD ([64, 1, 0, 255] : List Int) v3.toNat 0), v4, t20.1, t22.1, decide ((d.length : Int) > 0), false, d, t22.2.1, t22.2.2.1, t22.2.2.2)
    else some ((4 : Int), t18.1, t19.1, (List.getD ([64, 1, 0, 255] : List Int) v3.toNat 0), v4, t20.1, t22.1, false, false, d, t22.2.1, t22.2.2.1, t22.2.2.2)
   else some ((4 : Int), t18.1, t19.1, (List.getD ([64, 1, 0, 255] : List Int) v3.toNat 0), v4, t20.1, (0 : Int), false, false, d, t21.2.1, t21.2.2.1, t21.2.2.2)
  else some ((6 : Int), u1, u2, (List.getD ([64, 1, 0, 255] : List Int) v3.toNat 0), v4, (0 : Int), (0 : Int), false, false, d, t17.2.1, t17.2.2.1, t17.2.2.2)) = some t ∧ PK xs (n + 300) t := fun d a7 s7 hd hdB g7 => by
  have hv4' : 0 ≤ v4 ∧ v4 ≤ 255 := by omega
  have h8 : decide (Int.tmod (d.length : Int) 8 = 0) = true → d.length % 8 = 0 := fun h => by rw [tm8] at h; have := of_decide_eq_true h; omega
  obtain ⟨b8, a8, s8, e8, g8⟩ := chance_ok k g7 (by omega) (N := 2) (by omega) (by omega)
  obtain ⟨u9, a9, s9, e9, g9, z9⟩ := addr4_ok k g8 (by omega)
  obtain ⟨u10, a10, s10, e10, g10, z10⟩ := addr4_ok k g9 (by omega)
  obtain ⟨v11, a11, s11, e11, hv11, g11⟩ := next_ok k g10 (by omega) (N := 65536) (by omega) (by omega)
  obtain ⟨v12, a12, s12, e12, hv12, g12⟩ := next_ok k g11 (by omega) (N := 4) (by omega) (by omega)
  obtain ⟨v13, a13, s13, e13, hv13, g13⟩ := next_ok k g12 (by omega) (N := 20) (by omega) (by omega)
  simp only [e8, Option.bind_some, e9, e10, e11, e12, e13]
  split
  ·split
   ·exact ⟨_, rfl, (show PkOK 4 u9 u10 (List.getD ([64, 1, 0, 255] : List Int) v3.toNat 0) v4 v11 0 false true d.length from ⟨hhop, hv4', by omega, .inl ⟨rfl, z9, z10, by omega, by omega, fun _ => ⟨rfl, rfl⟩, fun h => by simp at h, by omega⟩⟩), hdB, hd, rfl, g12.to (by omega)⟩
   ·split
    ·split
     ·exact ⟨_, rfl, (show PkOK 4 u9 u10 (List.getD ([64, 1, 0, 255] : List Int) v3.toNat 0) v4 v11 v13 (decide ((d.length : Int) > 0)) false d.length from ⟨hhop, hv4', by omega, .inl ⟨rfl, z9, z10, by omega, by omega, fun h => by simp at h, fun h => ⟨h8 (by assumption), by simpa using h⟩, by omega⟩⟩), hdB, hd, rfl, g13.to (by omega)⟩
     ·exact ⟨_, rfl, (show PkOK 4 u9 u10 (List.getD ([64, 1, 0, 255] : List Int) v3.toNat 0) v4 v11 v13 false false d.length from ⟨hhop, hv4', by omega, .inl ⟨rfl, z9, z10, by omega, by omega, fun h => by simp at h, fun h => by simp at h, by omega⟩⟩), hdB, hd, rfl, g13.to (by omega)⟩
    ·exact ⟨_, rfl, (show PkOK 4 u9 u10 (List.getD ([64, 1, 0, 255] : List Int) v3.toNat 0) v4 v11 0 false false d.length from ⟨hhop, hv4', by omega, .inl ⟨rfl, z9, z10, by omega, by omega, fun h => by simp at h, fun h => by simp at h, by omega⟩⟩), hdB, hd, rfl, g12.to (by omega)⟩
  ·exact ⟨_, rfl, (show PkOK 6 u1 u2 (List.getD ([64, 1, 0, 255] : List Int) v3.toNat 0) v4 0 0 false false d.length from ⟨hhop, hv4', by omega, .inr ⟨rfl, z1, z2, rfl, rfl, rfl, rfl⟩⟩), hdB, hd, rfl, g8.to (by omega)⟩
 split
 ·obtain ⟨v7, a7, s7, e7, hv7, g7⟩ := next_ok k g6 (by omega) (N := 1400) (by omega) (by omega)
  simp only [e7, Option.bind_some]
  rw [if_pos hv7.1, if_pos (by simp [maxN]; omega)]
  exact rest _ _ _ (by simp; omega) (hdB.append (fun x hx => by have := List.eq_of_mem_replicate hx; omega)) (g7.to (by omega))
 ·exact rest _ _ _ (by omega) hdB (g6.to (by omega))
def flg (off : Int) (more keep : Bool) : Int := off + (if more = true then 8192 else 0) + (if keep = true then 16384 else 0)
def h4 (n : Nat) (id fl hop proto c0 c1 : Int) (r : List Int) : List Int := 69 :: 0 :: (20 + (n : Int)) / 256 :: (20 + (n : Int)) % 256 :: id / 256 :: id % 256 :: fl / 256 :: fl % 256 :: hop :: proto :: c0 :: c1 :: r
def pb4 (A B : ByteArray) (hop proto id fl : Int) (d : List Int) : List Int :=
 h4 d.length id fl hop proto (csum (h4 d.length id fl hop proto 0 0 (bytesOf A ++ bytesOf B)) / 256) (csum (h4 d.length id fl hop proto 0 0 (bytesOf A ++ bytesOf B)) % 256) (bytesOf A ++ (bytesOf B ++ d))
def pb6 (A B : ByteArray) (hop proto : Int) (d : List Int) : List Int := 96 :: 0 :: 0 :: 0 :: (d.length : Int) / 256 :: (d.length : Int) % 256 :: proto :: hop :: (bytesOf A ++ (bytesOf B ++ d))
def pb (v : Int) (A B : ByteArray) (hop proto id off : Int) (more keep : Bool) (d : List Int) : List Int := if v = 6 then pb6 A B hop proto d else pb4 A B hop proto id (flg off more keep) d
theorem hi8 {a : Int} (h : 0 ≤ a ∧ a ≤ 65535) : IntKind.u8.wrap (Int.fdiv a (2 ^ (min (Int.toNat 8) IntKind.i64.bits))) = a / 256 := by
 have q : (2 ^ (min (Int.toNat 8) IntKind.i64.bits) : Int) = 256 := by decide
 rw [q, Int.fdiv_eq_ediv_of_nonneg _ (by omega), IntKind.wrap_u8]; omega
theorem lo8 (a : Int) : IntKind.u8.wrap a = a % 256 := by rw [IntKind.wrap_u8]
theorem hi8s {a : Int} (h : 0 ≤ a ∧ a ≤ 65535) : IntKind.u8.wrap (IntKind.i64.wrap (Int.tdiv a 256)) = a / 256 := by
 rw [Int.tdiv_eq_ediv_of_nonneg h.1, w64 (by omega) (by omega), IntKind.wrap_u8]; omega
theorem lo8s {a : Int} (h : 0 ≤ a ∧ a ≤ 65535) : IntKind.u8.wrap (Int.tmod a 256) = a % 256 := by
 rw [Int.tmod_eq_emod_of_nonneg h.1, IntKind.wrap_u8]; omega
theorem h4_bytes {n : Nat} {id fl hop proto c0 c1 : Int} {r : List Int} (hn : n ≤ 1500) (h1 : 0 ≤ id ∧ id ≤ 65535) (h2 : 0 ≤ fl ∧ fl ≤ 65535) (h3 : 0 ≤ hop ∧ hop ≤ 255) (h4' : 0 ≤ proto ∧ proto ≤ 255) (h5 : 0 ≤ c0 ∧ c0 ≤ 255) (h6 : 0 ≤ c1 ∧ c1 ≤ 255) (hr : Bytes r) : Bytes (h4 n id fl hop proto c0 c1 r) := by
 unfold h4
 exact ((((((((((((hr.cons h6).cons h5).cons h4').cons h3).cons (by omega)).cons (by omega)).cons (by omega)).cons (by omega)).cons (by omega)).cons (by omega)).cons (by omega)).cons (by omega))
theorem flg_range {off : Int} {more keep : Bool} (h : 0 ≤ off ∧ off ≤ 8191) : 0 ≤ flg off more keep ∧ flg off more keep ≤ 32767 := by
 cases more <;> cases keep <;> simp [flg] <;> omega
theorem impl_bytes {k : Nat} (hK : 2097152 ≤ k) {v : Int} {A B : ByteArray} {hop proto id off : Int} {more keep : Bool} {d : List Int} (h : PkOK v A B hop proto id off more keep d.length) :
  f108 k v A B hop proto id off more keep d = some (pb v A B hop proto id off more keep d) := by
 obtain ⟨hh, hp, hn, ⟨rfl, hA, hB, hid, hoff, _⟩ | ⟨rfl, hA, hB, _⟩⟩ := h
 ·have hf := flg_range (more := more) (keep := keep) hoff
  have hbl : (bytesOf A).length = 4 := by rw [bytesOf_length, hA]
  have hbl2 : (bytesOf B).length = 4 := by rw [bytesOf_length, hB]
  have hs := implSum hK (h4_bytes hn hid (by omega) hh hp (c0 := 0) (c1 := 0) (fl := flg off more keep) (by omega) (by omega) ((bytesOf_bytes A).append (bytesOf_bytes B))) (by simp [h4, hbl, hbl2])
  have hc := csum_range (h4_bytes hn hid (by omega) hh hp (c0 := 0) (c1 := 0) (fl := flg off more keep) (by omega) (by omega) ((bytesOf_bytes A).append (bytesOf_bytes B)))
  simp only [pb, pb4, if_neg (show ¬ (4 : Int) = 6 by omega)]
  generalize csum (h4 d.length id (flg off more keep) hop proto 0 0 (bytesOf A ++ bytesOf B)) = c at hs hc
  have w0 : IntKind.i64.wrap (20 + (d.length : Int)) = 20 + (d.length : Int) := w64 (by omega) (by omega)
  have e1 : IntKind.u8.wrap hop = hop := wu8_eq hh
  have e2 : IntKind.u8.wrap proto = proto := wu8_eq hp
  have core : ∀ (f : Int), f = flg off more keep → ((f107 k (20 + (d.length : Int))).bind fun t12 => if (List.length ([69, 0] : List Int) + List.length t12) * 1 ≤ maxN then
          (f107 k id).bind fun t13 => if (List.length (([69, 0] : List Int) ++ t12) + List.length t13) * 1 ≤ maxN then
            (f107 k f).bind fun t14 => if (List.length ((([69, 0] : List Int) ++ t12) ++ t13) + List.length t14) * 1 ≤ maxN then
              if (List.length (((([69, 0] : List Int) ++ t12) ++ t13) ++ t14) + List.length ([hop, proto, 0, 0] : List Int)) * 1 ≤ maxN then
               if List.length ((((([69, 0] : List Int) ++ t12) ++ t13) ++ t14) ++ ([hop, proto, 0, 0] : List Int)) + List.length (bytesOf A) ≤ maxN then
                if List.length (((((([69, 0] : List Int) ++ t12) ++ t13) ++ t14) ++ ([hop, proto, 0, 0] : List Int)) ++ (bytesOf A)) + List.length (bytesOf B) ≤ maxN then
                 if (10 : Int) ≤ ((List.length ((((((([69, 0] : List Int) ++ t12) ++ t13) ++ t14) ++ ([hop, proto, 0, 0] : List Int)) ++ (bytesOf A)) ++ (bytesOf B)) : Nat) : Int) then
                  if ((List.length ((((((([69, 0] : List Int) ++ t12) ++ t13) ++ t14) ++ ([hop, proto, 0, 0] : List Int)) ++ (bytesOf A)) ++ (bytesOf B)) : Nat) : Int) ≤ ((List.length ((((((([69, 0] : List Int) ++ t12) ++ t13) ++ t14) ++ ([hop, proto, 0, 0] : List Int)) ++ (bytesOf A)) ++ (bytesOf B)) : Nat) : Int) then
                   (f114 k ((((((([69, 0] : List Int) ++ t12) ++ t13) ++ t14) ++ ([hop, proto, 0, 0] : List Int)) ++ (bytesOf A)) ++ (bytesOf B))).bind fun t15 => (f107 k t15).bind fun t16 => if (List.length (copyL ((((((([69, 0] : List Int) ++ t12) ++ t13) ++ t14) ++ ([hop, proto, 0, 0] : List Int)) ++ (bytesOf A)) ++ (bytesOf B)) 10 ((Int.toNat ((List.length ((((((([69, 0] : List Int) ++ t12) ++ t13) ++ t14) ++ ([hop, proto, 0, 0] : List Int)) ++ (bytesOf A)) ++ (bytesOf B)) : Nat) : Int)) - 10) t16) + List.length d) * 1 ≤ maxN then
                         some ((copyL ((((((([69, 0] : List Int) ++ t12) ++ t13) ++ t14) ++ ([hop, proto, 0, 0] : List Int)) ++ (bytesOf A)) ++ (bytesOf B)) 10 ((Int.toNat ((List.length ((((((([69, 0] : List Int) ++ t12) ++ t13) ++ t14) ++ ([hop, proto, 0, 0] : List Int)) ++ (bytesOf A)) ++ (bytesOf B)) : Nat) : Int)) - 10) t16) ++ d)
                     else none
                  else none
                 else none
                else none
               else none
              else none
             else none
           else none
     else none) = some (h4 d.length id (flg off more keep) hop proto (c / 256) (c % 256) (bytesOf A ++ (bytesOf B ++ d))) := fun f hf' => by
   subst hf'
   have q1 : (20 + (d.length : Int)) ≤ 65535 := by omega
   simp only [h4] at hs
   simp only [f107, f107.step, Option.bind_some, hi8 (show 0 ≤ 20 + (d.length : Int) ∧ 20 + (d.length : Int) ≤ 65535 by omega), hi8 hid, hi8 (show 0 ≤ flg off more keep ∧ flg off more keep ≤ 65535 by omega), lo8, List.cons_append, List.nil_append, List.append_assoc, hs, hi8 hc]
   simp only [List.length_cons, List.length_nil, List.length_append, hbl, hbl2, copyL]
   rw [if_pos (by simp [maxN]), if_pos (by simp [maxN]), if_pos (by simp [maxN]), if_pos (by simp [maxN]), if_pos (by simp [maxN]), if_pos (by simp [maxN]), if_pos (by simp), if_pos (by simp), if_pos (by simp [maxN, hbl, hbl2]; omega)]
   simp [h4]
   have := hi8 hc
   rw [lo8] at this
   simpa using this
  cases keep <;> cases more
  ·have := core off (by simp [flg])
   simp only [f108, f108.step, w0, e1, e2]
   exact this
  ·have := core (off + 8192) (by simp [flg])
   have w1 : IntKind.i64.wrap (off + 8192) = off + 8192 := w64 (by omega) (by omega)
   simp only [f108, f108.step, w0, e1, e2, w1]
   exact this
  ·have := core (off + 16384) (by simp [flg])
   have w1 : IntKind.i64.wrap (off + 16384) = off + 16384 := w64 (by omega) (by omega)
   simp only [f108, f108.step, w0, e1, e2, w1]
   exact this
  ·have := core (off + 16384 + 8192) (by simp [flg]; omega)
   have w1 : IntKind.i64.wrap (off + 16384) = off + 16384 := w64 (by omega) (by omega)
   have w2 : IntKind.i64.wrap (off + 16384 + 8192) = off + 16384 + 8192 := w64 (by omega) (by omega)
   simp only [f108, f108.step, w0, e1, e2, w1, w2]
   exact this
 ·have hbl : (bytesOf A).length = 16 := by rw [bytesOf_length, hA]
  have hbl2 : (bytesOf B).length = 16 := by rw [bytesOf_length, hB]
  simp only [pb, pb6, if_true]
  simp only [f108, f108.step, f107, f107.step, Option.bind_some, hi8 (show 0 ≤ (d.length : Int) ∧ (d.length : Int) ≤ 65535 by omega), lo8, List.cons_append, List.nil_append, List.append_assoc, decide_true, if_true]
  simp only [List.length_cons, List.length_nil, List.length_append, hbl, hbl2]
  rw [if_pos (by simp [maxN]), if_pos (by simp [maxN]), if_pos (by simp [maxN]), if_pos (by simp [maxN]), if_pos (by simp [maxN]; omega)]
  rw [show proto % 256 = proto by omega, show hop % 256 = hop by omega]
theorem bit_spec (k : Nat) (b : Bool) (x : Int) : f162 k b x = some (if b = true then x else 0) := by
 cases b <;> simp [f162, f162.step]
theorem spec_bytes {k : Nat} (hK : 2097152 ≤ k) {v : Int} {A B : ByteArray} {hop proto id off : Int} {more keep : Bool} {d : List Int} (h : PkOK v A B hop proto id off more keep d.length) :
  f112 k v A B hop proto id off more keep d = some (pb v A B hop proto id off more keep d) := by
 obtain ⟨hh, hp, hn, ⟨rfl, hA, hB, hid, hoff, _⟩ | ⟨rfl, hA, hB, _⟩⟩ := h
 ·have hf := flg_range (more := more) (keep := keep) hoff
  have hbl : (bytesOf A).length = 4 := by rw [bytesOf_length, hA]
  have hbl2 : (bytesOf B).length = 4 := by rw [bytesOf_length, hB]
  have hs := specSum hK (h4_bytes hn hid (by omega) hh hp (c0 := 0) (c1 := 0) (fl := flg off more keep) (by omega) (by omega) ((bytesOf_bytes A).append (bytesOf_bytes B))) (by simp [h4, hbl, hbl2])
  have hc := csum_range (h4_bytes hn hid (by omega) hh hp (c0 := 0) (c1 := 0) (fl := flg off more keep) (by omega) (by omega) ((bytesOf_bytes A).append (bytesOf_bytes B)))
  simp only [pb, pb4, if_neg (show ¬ (4 : Int) = 6 by omega)]
  generalize csum (h4 d.length id (flg off more keep) hop proto 0 0 (bytesOf A ++ bytesOf B)) = c at hs hc
  have w0 : IntKind.i64.wrap (20 + (d.length : Int)) = 20 + (d.length : Int) := w64 (by omega) (by omega)
  have e1 : IntKind.u8.wrap hop = hop := wu8_eq hh
  have e2 : IntKind.u8.wrap proto = proto := wu8_eq hp
  have e3 : IntKind.i64.wrap (IntKind.i64.wrap ((if keep = true then 16384 else 0) + (if more = true then 8192 else 0)) + off) = flg off more keep := by
   have ein : ∀ a b : Int, (0 ≤ a ∧ a ≤ 16384) → (0 ≤ b ∧ b ≤ 8192) → IntKind.i64.wrap (IntKind.i64.wrap (a + b) + off) = a + b + off := fun a b h1 h2 => by
    rw [w64 (n := a + b) (by omega) (by omega), w64 (by omega) (by omega)]
   rw [ein _ _ (by split <;> omega) (by split <;> omega)]
   simp only [flg]; omega
  have n6 : decide ((4 : Int) = 6) = false := by decide
  simp only [h4] at hs
  simp only [f112, f112.step, n6, w0, e1, e2, f111, f111.step, bit_spec, e3, Option.bind_some, hi8s (show 0 ≤ 20 + (d.length : Int) ∧ 20 + (d.length : Int) ≤ 65535 by omega), hi8s hid, hi8s (show 0 ≤ flg off more keep ∧ flg off more keep ≤ 65535 by omega), lo8s (show 0 ≤ 20 + (d.length : Int) ∧ 20 + (d.length : Int) ≤ 65535 by omega), lo8s hid, lo8s (show 0 ≤ flg off more keep ∧ flg off more keep ≤ 65535 by omega), List.cons_append, List.nil_append, List.append_assoc, hs, hi8s hc, lo8s hc, Bool.false_eq_true, if_false]
  simp only [List.length_set, List.length_cons, List.length_nil, List.length_append, hbl, hbl2]
  rw [if_pos (by simp [maxN]), if_pos (by simp [maxN]), if_pos (by simp [maxN]), if_pos (by simp [maxN]), if_pos (by simp [maxN]), if_pos (by simp [maxN]), if_pos (by simp), if_pos (by simp), if_pos (by simp [maxN]; omega)]
  simp [h4]
 ·have hbl : (bytesOf A).length = 16 := by rw [bytesOf_length, hA]
  have hbl2 : (bytesOf B).length = 16 := by rw [bytesOf_length, hB]
  simp only [pb, pb6, if_true]
  simp only [f112, f112.step, f111, f111.step, Option.bind_some, hi8s (show 0 ≤ (d.length : Int) ∧ (d.length : Int) ≤ 65535 by omega), lo8s (show 0 ≤ (d.length : Int) ∧ (d.length : Int) ≤ 65535 by omega), wu8_eq hp, wu8_eq hh, List.cons_append, List.nil_append, List.append_assoc, decide_true, if_true]
  simp only [List.length_cons, List.length_nil, List.length_append, hbl, hbl2]
  rw [if_pos (by simp [maxN]), if_pos (by simp [maxN]), if_pos (by simp [maxN]), if_pos (by simp [maxN]), if_pos (by simp [maxN]; omega)]
theorem pb_bytes {v : Int} {A B : ByteArray} {hop proto id off : Int} {more keep : Bool} {d : List Int} (h : PkOK v A B hop proto id off more keep d.length) (hd : Bytes d) : Bytes (pb v A B hop proto id off more keep d) := by
 obtain ⟨hh, hp, hn, ⟨rfl, hA, hB, hid, hoff, _⟩ | ⟨rfl, hA, hB, _⟩⟩ := h
 ·have hf := flg_range (more := more) (keep := keep) hoff
  have hc := csum_range (h4_bytes hn hid (by omega) hh hp (c0 := 0) (c1 := 0) (fl := flg off more keep) (by omega) (by omega) ((bytesOf_bytes A).append (bytesOf_bytes B)))
  simp only [pb, pb4, if_neg (show ¬ (4 : Int) = 6 by omega)]
  exact h4_bytes hn hid (by omega) hh hp (by omega) (by omega) ((bytesOf_bytes A).append ((bytesOf_bytes B).append hd))
 ·simp only [pb, pb6, if_true]
  have hr := (bytesOf_bytes A).append ((bytesOf_bytes B).append hd)
  exact (((((((hr.cons hh).cons hp).cons (by omega)).cons (by omega)).cons (by omega)).cons (by omega)).cons (by omega)).cons (by omega)
theorem pb_length {v : Int} {A B : ByteArray} {hop proto id off : Int} {more keep : Bool} {d : List Int} (h : PkOK v A B hop proto id off more keep d.length) : 20 ≤ (pb v A B hop proto id off more keep d).length ∧ (pb v A B hop proto id off more keep d).length ≤ 1540 := by
 obtain ⟨hh, hp, hn, ⟨rfl, hA, hB, hid, hoff, _⟩ | ⟨rfl, hA, hB, _⟩⟩ := h
 ·simp only [pb, pb4, h4, if_neg (show ¬ (4 : Int) = 6 by omega), List.length_cons, List.length_append, bytesOf_length, hA, hB]; omega
 ·simp only [pb, pb6, if_true, List.length_cons, List.length_append, bytesOf_length, hA, hB]; omega
def r79 (l : List S66) (i : Nat) : S66 := List.getD l i ⟨ByteArray.empty, false, 0, 0, []⟩
theorem fold79 (l : List S66) (i : Nat) : List.getD l i (⟨ByteArray.empty, false, 0, 0, []⟩ : S66) = r79 l i := rfl
theorem r79_at (l : List S66) (i : Nat) (h : i < l.length) : r79 l i = l[i] := by simp [r79, List.getD_eq_getElem?_getD, List.getElem?_eq_getElem h]
mutual
def conv : S59 → S66
 | ⟨a, b, c, d, l⟩ => ⟨a, b, c, d, convS l⟩
def convS : List S59 → List S66
 | [] => []
 | x :: l => conv x :: convS l
end
mutual
def wt : S66 → Nat
 | ⟨a, _, _, _, l⟩ => a.size + l.length + wts l
def wts : List S66 → Nat
 | [] => 0
 | x :: l => wt x + wts l
end
mutual
def nd : S66 → Nat
 | ⟨_, _, _, _, l⟩ => 1 + nds l
def nds : List S66 → Nat
 | [] => 0
 | x :: l => nd x + nds l
end
theorem nd_eq (t : S66) : nd t = 1 + nds t.f4 := by cases t; simp [nd]
theorem nd_kid {t : S66} {i : Nat} (hi : i < t.f4.length) : nd (r79 t.f4 i) + 1 ≤ nd t := by
 rw [r79_at _ _ hi, nd_eq t]
 have : ∀ (l : List S66) (i : Nat) (hi : i < l.length), nd l[i] ≤ nds l := by
  intro l
  induction l with
  | nil => intro i hi; simp at hi
  | cons a l ih =>
   intro i hi
   cases i with
   | zero => simp [nds]
   | succ i =>
    have := ih i (by simpa using hi)
    simp only [List.getElem_cons_succ, nds]
    omega
 have := this t.f4 i hi
 omega
theorem nds_len (l : List S66) : l.length ≤ nds l := by
 induction l with
 | nil => simp
 | cons x l ih => have := nd_eq x; simp only [nds, List.length_cons]; omega
theorem spec_in (k : Nat) (a b c : Int) : f61 k a b c = some (decide (b ≤ a ∧ a ≤ c)) := by
 simp only [f61, f61.step, decide_eq_true_eq]
 by_cases h : a ≥ b
 ·rw [if_pos h]; simp; omega
 ·rw [if_neg h]; simp; omega
theorem impl_in (k : Nat) (a b c : Int) : f63 k a b c = some (decide (b ≤ a ∧ a ≤ c)) := by
 simp only [f63, f63.step, decide_eq_true_eq]
 by_cases h : a ≥ b
 ·rw [if_pos h]; simp; omega
 ·rw [if_neg h]; simp; omega
theorem bits_loop (s : ByteArray) (hs : s.size ≤ 128) (d : Nat) : ∀ i : Nat, i + d = s.size → ∃ r, E (fun k _ n => f158.l4 k n s (i : Int)) r ∧ E (fun k _ n => f125.l4 k n s (i : Int)) r := by
 induction d with
 | zero =>
  intro i h
  refine ⟨.inr (), ?_, ?_⟩
  ·apply e_loop
   simp only [f158.l4, f158.l4.step, decide_eq_true_eq]
   exact e_neg (by omega) (E.now _)
  ·apply e_loop
   simp only [f125.l4, f125.l4.step, decide_eq_true_eq]
   exact e_neg (by omega) (E.now _)
 | succ d ih =>
  intro i h
  have hw : IntKind.i64.wrap ((i : Int) + 1) = ((i + 1 : Nat) : Int) := by rw [w64 (by omega) (by omega)]; omega
  obtain ⟨r, g1, g2⟩ := ih (i + 1) (by omega)
  by_cases h0 : bt s i = 48
  ·refine ⟨r, ?_, ?_⟩
   ·apply e_loop
    simp only [f158.l4, f158.l4.step, decide_eq_true_eq, hw]
    exact e_pos (by omega) (e_pos (by omega) (e_pos (by omega) (e_neg (by simpa using h0) g1)))
   ·apply e_loop
    simp only [f125.l4, f125.l4.step, decide_eq_true_eq, hw]
    exact e_pos (by omega) (e_pos (by omega) (e_pos (by omega) (e_neg (by simpa using h0) g2)))
  ·by_cases h1 : bt s i = 49
   ·refine ⟨r, ?_, ?_⟩
    ·apply e_loop
     simp only [f158.l4, f158.l4.step, decide_eq_true_eq, hw]
     exact e_pos (by omega) (e_pos (by omega) (e_pos (by omega) (e_pos h0 (e_pos (by omega) (e_pos (by omega) (e_neg (by simpa using h1) g1))))))
    ·apply e_loop
     simp only [f125.l4, f125.l4.step, decide_eq_true_eq, hw]
     exact e_pos (by omega) (e_pos (by omega) (e_pos (by omega) (e_pos h0 (e_pos (by omega) (e_pos (by omega) (e_neg (by simpa using h1) g2))))))
   ·refine ⟨.inl false, ?_, ?_⟩
    ·apply e_loop
     simp only [f158.l4, f158.l4.step, decide_eq_true_eq]
     exact e_pos (by omega) (e_pos (by omega) (e_pos (by omega) (e_pos h0 (e_pos (by omega) (e_pos (by omega) (e_pos h1 (E.now _)))))))
    ·apply e_loop
     simp only [f125.l4, f125.l4.step, decide_eq_true_eq]
     exact e_pos (by omega) (e_pos (by omega) (e_pos (by omega) (e_pos h0 (e_pos (by omega) (e_pos (by omega) (e_pos h1 (E.now _)))))))
theorem bits_same (s : ByteArray) : ∃ r, E (fun k _ _ => f158 k s) r ∧ E (fun k _ _ => f125 k s) r ∧ (r = true → s.size ≤ 128) ∧ (s.size = 0 → r = true) := by
 simp only [f158, f158.step, f125, f125.step, decide_eq_true_eq]
 by_cases h : (s.size : Int) > 128
 ·exact ⟨false, e_pos h (E.now _), e_pos h (E.now _), by simp, by omega⟩
 ·obtain ⟨r, g1, g2⟩ := bits_loop s (by omega) s.size 0 (by omega)
  have w : ∀ v : Bool, v = (match r with | .inl x => x | .inr _ => true) → E (fun k _ _ => if (s.size : Int) > 128 then some false else (f158.l4 k k s 0).bind (Sum.elim (fun t => some t) fun _ => some true)) v ∧ E (fun k _ _ => if (s.size : Int) > 128 then some false else (f125.l4 k k s 0).bind (Sum.elim (fun t => some t) fun _ => some true)) v := by
   intro v hv
   subst hv
   refine ⟨e_neg h (E.bind (e_use g1) ?_), e_neg h (E.bind (e_use g2) ?_)⟩ <;> cases r <;> exact E.now _
  refine ⟨_, (w _ rfl).1, (w _ rfl).2, fun _ => by omega, fun hz => ?_⟩
  have e : r = .inr () := by
   refine e_unique g1 ?_
   apply e_loop
   simp only [f158.l4, f158.l4.step, decide_eq_true_eq]
   exact e_neg (by omega) (E.now _)
  subst e
  rfl
theorem bits_fun : ∃ B : ByteArray → Bool, ∀ s, E (fun k _ _ => f158 k s) (B s) ∧ E (fun k _ _ => f125 k s) (B s) ∧ (B s = true → s.size ≤ 128) ∧ (s.size = 0 → B s = true) :=
 ⟨fun s => (bits_same s).choose, fun s => (bits_same s).choose_spec⟩
theorem toList_size (s : ByteArray) : s.toList.length = s.size := by
 rw [ByteArray.toList_eq, Array.length_toList]; rfl
theorem empty_iff (s : ByteArray) : s.toList = (⟨#[]⟩ : ByteArray).toList ↔ s.size = 0 := by
 constructor
 ·intro e
  have := congrArg List.length e
  rw [toList_size, toList_size] at this
  exact this
 ·intro e
  have : s = ⟨#[]⟩ := ByteArray.ext (Array.size_eq_zero_iff.mp e)
  rw [this]
def pre (a b : ByteArray) : Bool := decide ((a.extract 0 b.size).toList = b.toList)
theorem begins_eq (k : Nat) (a b : ByteArray) : f191 k a b = some (decide (b.size ≤ a.size) && pre a b) := by
 simp only [f191, f191.step, decide_eq_true_eq, pre, Int.toNat_natCast]
 by_cases h : (a.size : Int) ≥ (b.size : Int)
 ·rw [if_pos h, if_pos (by omega), if_pos (by omega), decide_eq_true (show b.size ≤ a.size by omega), Bool.true_and]
 ·rw [if_neg h, decide_eq_false (show ¬ b.size ≤ a.size by omega), Bool.false_and]
theorem prefix_eq (k : Nat) (a b : ByteArray) : f179 k a b = some (decide (b.size ≤ a.size) && pre a b) := by
 simp only [f179, f179.step, f194, f194.step, decide_eq_true_eq, pre, Int.toNat_natCast]
 by_cases h : (a.size : Int) ≥ (b.size : Int)
 ·rw [if_pos h, if_pos (by omega), if_pos (by omega), decide_eq_true (show b.size ≤ a.size by omega), Bool.true_and, Option.bind_some]
 ·rw [if_neg h, decide_eq_false (show ¬ b.size ≤ a.size by omega), Bool.false_and, Option.bind_some]
def sh (t kid : S66) : Prop := t.f0.size < kid.f0.size ∧ pre kid.f0 t.f0 = true
def ordK (t : S66) (i : Nat) : Prop := i = 1 → ¬ bt (r79 t.f4 0).f0 (t.f0.size : Int) ≥ bt (r79 t.f4 i).f0 (t.f0.size : Int)
theorem bp {b : Bool} {p : Prop} [Decidable p] (h : p) (hb : b = true) : (!(decide p && b)) = false := by simp [h, hb]
theorem bn {b : Bool} {p : Prop} [Decidable p] (h : p) (hb : b = true) : ¬ (!(decide p && b)) = true := by simp [h, hb]
theorem bq {b : Bool} {p : Prop} [Decidable p] (hb : b = false) : (!(decide p && b)) = true := by simp [hb]
def sb (b : Bool) : Bool ⊕ Unit := if b then .inr () else .inl false
section
variable (B : ByteArray → Bool) (HB : ∀ s, E (fun k _ _ => f158 k s) (B s) ∧ E (fun k _ _ => f125 k s) (B s) ∧ (B s = true → s.size ≤ 128) ∧ (s.size = 0 → B s = true))
include HB
theorem specRoute_ev (s : ByteArray) (a b : Int) : E (fun k _ _ => f87 k s a b) (B s && decide (0 ≤ a ∧ a ≤ 99) && decide (0 ≤ b ∧ b ≤ 16)) := by
 have h := (HB s).1
 simp only [f87, f87.step, spec_in, Option.bind_some]
 refine E.bind h ?_
 by_cases h1 : B s = true
 ·rw [h1]
  refine e_pos rfl (e_ite (fun h2 => e_fin ?_) (fun h2 => e_fin ?_))
  ·rw [h2]; rfl
  ·rw [Bool.not_eq_true] at h2; rw [h2]; rfl
 ·rw [Bool.not_eq_true] at h1
  rw [h1]
  exact e_neg (by simp) (E.now _)
theorem implRoute_ev (s : ByteArray) (a b : Int) : E (fun k _ _ => f93 k s a b) (B s && decide (0 ≤ a ∧ a ≤ 99) && decide (0 ≤ b ∧ b ≤ 16)) := by
 have h := (HB s).2.1
 simp only [f93, f93.step, impl_in, Option.bind_some]
 refine E.bind h ?_
 by_cases h1 : B s = true
 ·rw [h1]
  refine e_pos rfl (e_ite (fun h2 => e_fin ?_) (fun h2 => e_fin ?_))
  ·rw [h2]; rfl
  ·rw [Bool.not_eq_true] at h2; rw [h2]; rfl
 ·rw [Bool.not_eq_true] at h1
  rw [h1]
  exact e_neg (by simp) (E.now _)
theorem right_notbits (t : S66) (top : Bool) (dep : Int) (hb : B t.f0 = false) : E (fun k j _ => f157i.r k j t.f0 t.f1 t.f2 t.f3 t.f4 top dep) false := by
 have hr := specRoute_ev B HB t.f0 t.f2 t.f3
 rw [hb] at hr
 apply e_rec
 simp only [f157i.r, f157i, f157i.step]
 exact e_ite (fun _ => E.bind hr (e_neg (by simp) (E.now _))) (fun _ => E.now _)
theorem right_top (t : S66) (dep : Int) (hb : ¬ t.f0.toList = (⟨#[]⟩ : ByteArray).toList) : E (fun k j _ => f157i.r k j t.f0 t.f1 t.f2 t.f3 t.f4 true dep) false := by
 have hr := specRoute_ev B HB t.f0 t.f2 t.f3
 apply e_rec
 simp only [f157i.r, f157i, f157i.step]
 refine e_ite (fun _ => E.bind hr (e_ite (fun _ => e_ite (fun _ => e_ite (fun _ => e_ite (fun _ => e_ite (fun _ => e_pos trivial (e_neg (by simpa using hb) (E.now _))) (fun _ => E.now _)) (fun _ => E.now _)) (fun _ => E.now _)) (fun _ => e_ite (fun _ => e_pos trivial (e_neg (by simpa using hb) (E.now _))) (fun _ => E.now _))) (fun _ => E.now _))) (fun _ => E.now _)
def nodeP (t : S66) (top : Bool) : Prop := (t.f1 = true ∧ (0 ≤ t.f2 ∧ t.f2 ≤ 99) ∧ 0 ≤ t.f3 ∧ t.f3 ≤ 16) ∨ (¬ t.f1 = true ∧ t.f2 = 0 ∧ t.f3 = 0 ∧ (top = true ∨ t.f4.length = 2))
theorem right_node (t : S66) (top : Bool) (dep : Nat) (hb : B t.f0 = true) (hd : dep ≤ t.f0.size) (ht : top = true → t.f0.toList = (⟨#[]⟩ : ByteArray).toList) (hl : t.f4.length ≤ 2) {s : Bool} (hs : E (fun k j n => f157i.l4 (f157i.r k j) k n (dep : Int) 0 t.f0 t.f1 t.f2 t.f3 t.f4) (sb s)) :
  (nodeP t top → E (fun k j _ => f157i.r k j t.f0 t.f1 t.f2 t.f3 t.f4 top (dep : Int)) s) ∧ (¬ nodeP t top → E (fun k j _ => f157i.r k j t.f0 t.f1 t.f2 t.f3 t.f4 top (dep : Int)) false) := by
 have hr := specRoute_ev B HB t.f0 t.f2 t.f3
 rw [hb, Bool.true_and] at hr
 have h128 := (HB t.f0).2.2.1 hb
 have hF : E (fun k j _ => (f157i.l4 (f157i.r k j) k k (dep : Int) 0 t.f0 t.f1 t.f2 t.f3 t.f4).bind (Sum.elim (fun t19 => some t19) (fun _ => some true))) s := by
  refine E.bind (e_use hs) ?_
  cases s <;> exact E.now _
 refine ⟨fun h => ?_, fun h => ?_⟩
 ·rcases h with ⟨h1, h2, h3⟩ | ⟨h1, h2, h3, h4⟩
  ·rw [decide_eq_true h2, decide_eq_true h3] at hr
   rw [h1] at hF
   apply e_rec
   simp only [f157i.r, f157i, f157i.step, decide_eq_true_eq, decide_eq_false_iff_not, h1, Bool.not_true]
   refine e_pos (by omega) (E.bind hr (e_pos rfl (e_neg (by simp) (e_pos (by omega) (e_ite (fun c => e_pos (by simp [ht c]) ?_) (fun c => ?_))))))
   ·exact e_ite (fun _ => e_neg (by simp) hF) (fun _ => hF)
   ·exact e_ite (fun _ => e_neg (by simp) hF) (fun _ => hF)
  ·rw [decide_eq_true (show 0 ≤ t.f2 ∧ t.f2 ≤ 99 by omega), decide_eq_true (show 0 ≤ t.f3 ∧ t.f3 ≤ 16 by omega)] at hr
   rw [Bool.not_eq_true] at h1
   rw [h1] at hF
   apply e_rec
   simp only [f157i.r, f157i, f157i.step, decide_eq_true_eq, decide_eq_false_iff_not, h1, Bool.not_false]
   refine e_pos (by omega) (E.bind hr (e_pos rfl (e_pos trivial (e_pos (by omega) (e_pos (by omega) (e_pos (by omega) (e_ite (fun c => e_pos (by simp [ht c]) (e_neg (by simp [c]) hF)) (fun c => e_pos (by simpa using c) (e_pos trivial (e_neg ?_ hF))))))))))
   rcases h4 with h4 | h4
   ·exact absurd h4 c
   ·omega
 ·apply e_rec
  simp only [f157i.r, f157i, f157i.step, decide_eq_true_eq, decide_eq_false_iff_not]
  refine e_pos (by omega) (E.bind hr (e_ite (fun c => ?_) (fun _ => E.now _)))
  have c : (decide (0 ≤ t.f2 ∧ t.f2 ≤ 99) && decide (0 ≤ t.f3 ∧ t.f3 ≤ 16)) = true := by simpa using c
  rw [Bool.and_eq_true, decide_eq_true_eq, decide_eq_true_eq] at c
  refine e_ite (fun h1 => e_ite (fun h2 => e_ite (fun h3 => e_pos (by omega) (e_ite (fun h4 => ?_) (fun h4 => ?_))) (fun _ => E.now _)) (fun _ => E.now _)) (fun h1 => ?_)
  ·exact absurd (.inr ⟨by simpa using h1, by omega, by omega, .inl h4⟩) h
  ·refine e_pos (by simpa using h4) (e_pos h1 (e_pos ?_ (E.now _)))
   rcases Nat.lt_or_ge t.f4.length 2 with h5 | h5
   ·omega
   ·exact absurd (.inr ⟨by simpa using h1, by omega, by omega, .inr (by omega)⟩) h
  ·exact absurd (.inl ⟨by simpa using h1, c.1, c.2⟩) h
omit HB in
theorem right_many (t : S66) (top : Bool) (dep : Int) (hl : 2 < t.f4.length) {q : Bool} (hr : E (fun k _ _ => f87 k t.f0 t.f2 t.f3) q) : E (fun k j _ => f157i.r k j t.f0 t.f1 t.f2 t.f3 t.f4 top dep) false := by
 apply e_rec
 simp only [f157i.r, f157i, f157i.step, decide_eq_true_eq, decide_eq_false_iff_not]
 exact e_ite (fun _ => E.bind hr (e_ite (fun _ => e_ite (fun _ => e_ite (fun _ => e_ite (fun _ => e_neg (by omega) (E.now _)) (fun _ => E.now _)) (fun _ => E.now _)) (fun _ => e_neg (by omega) (E.now _))) (fun _ => E.now _))) (fun _ => E.now _)
omit HB in
theorem spec_end (t : S66) (dep : Int) (i : Nat) (hi : t.f4.length ≤ i) : E (fun k j n => f157i.l4 (f157i.r k j) k n dep i t.f0 t.f1 t.f2 t.f3 t.f4) (sb true) := by
 apply e_loop
 simp only [f157i.l4, f157i.l4.step, decide_eq_true_eq]
 exact e_neg (by omega) (E.now _)
omit HB in
theorem spec_bad (t : S66) (dep : Int) (i : Nat) (hi : i < t.f4.length) (h0 : i = 1 → sh t (r79 t.f4 0)) (h : ¬ (sh t (r79 t.f4 i) ∧ ordK t i)) : E (fun k j n => f157i.l4 (f157i.r k j) k n dep i t.f0 t.f1 t.f2 t.f3 t.f4) (sb false) := by
 apply e_loop
 simp only [f157i.l4, f157i.l4.step, decide_eq_true_eq, decide_eq_false_iff_not, begins_eq, Option.bind_some, Int.toNat_natCast]
 simp only [fold79]
 refine e_pos (by omega) (e_pos (by omega) (e_pos (by omega) (e_ite (fun c => e_ite (fun c2 => ?_) (fun c2 => E.now _)) (fun _ => E.now _))))
 rw [Bool.not_eq_false', Bool.and_eq_true] at c
 have c1 := of_decide_eq_true c.1
 have hs : sh t (r79 t.f4 i) := ⟨by omega, c.2⟩
 by_cases h1 : i = 1
 ·have h01 := (h0 h1).1
  have hs1 := hs.1
  refine e_pos (by omega) (e_pos (by omega) (e_pos (by omega) (e_pos (by omega) (e_pos (by omega) (e_pos (by omega) (e_ite (fun c3 => absurd ⟨hs, fun _ => c3⟩ h) (fun c3 => E.now _)))))))
 ·exact absurd ⟨hs, fun h2 => absurd h2 h1⟩ h
omit HB in
theorem spec_go (t : S66) (dep : Nat) (hdep : dep ≤ 128) (i : Nat) (hi : i < t.f4.length) (hl : t.f4.length ≤ 2) (h0 : i = 1 → sh t (r79 t.f4 0)) (h : sh t (r79 t.f4 i) ∧ ordK t i) {g r : Bool}
  (hg : E (fun k j _ => f157i.r k j (r79 t.f4 i).f0 (r79 t.f4 i).f1 (r79 t.f4 i).f2 (r79 t.f4 i).f3 (r79 t.f4 i).f4 false ((dep + 1 : Nat) : Int)) g)
  (hr : g = true → E (fun k j n => f157i.l4 (f157i.r k j) k n (dep : Int) ((i + 1 : Nat) : Int) t.f0 t.f1 t.f2 t.f3 t.f4) (sb r)) :
  E (fun k j n => f157i.l4 (f157i.r k j) k n (dep : Int) i t.f0 t.f1 t.f2 t.f3 t.f4) (sb (if g = true then r else false)) := by
 have hw : IntKind.i64.wrap ((i : Int) + 1) = ((i + 1 : Nat) : Int) := by rw [w64 (by omega) (by omega)]; omega
 have hwd : IntKind.i64.wrap ((dep : Int) + 1) = ((dep + 1 : Nat) : Int) := by rw [w64 (by omega) (by omega)]; omega
 obtain ⟨hs, ho⟩ := h
 have hs1 := hs.1
 have fin : E (fun k j n => if (!g) = true then some (.inl false) else f157i.l4 (f157i.r k j) k n (dep : Int) ((i + 1 : Nat) : Int) t.f0 t.f1 t.f2 t.f3 t.f4) (sb (if g = true then r else false)) := by
  cases g
  ·exact e_pos (by simp) (E.now _)
  ·exact e_neg (by simp) (hr rfl)
 apply e_loop
 simp only [f157i.l4, f157i.l4.step, decide_eq_true_eq, decide_eq_false_iff_not, begins_eq, Option.bind_some, Int.toNat_natCast, hw, hwd]
 simp only [fold79]
 refine e_pos (by omega) (e_pos (by omega) (e_pos (by omega) (e_pos (bp (by omega) hs.2) (e_pos (by omega) ?_))))
 by_cases h1 : i = 1
 ·have h01 := (h0 h1).1
  exact e_pos (by omega) (e_pos (by omega) (e_pos (by omega) (e_pos (by omega) (e_pos (by omega) (e_pos (by omega) (e_pos (ho h1) (E.bind hg fin)))))))
 ·exact e_neg (by omega) (E.bind hg fin)
omit HB in
theorem kids_end (t : S66) (i : Nat) (hi : t.f4.length ≤ i) : E (fun k _ n => f166.l4 k n t.f4 t.f4.length i t.f0 t.f1 t.f2 t.f3 t.f4) (sb true) := by
 apply e_loop
 simp only [f166.l4, f166.l4.step, decide_eq_true_eq]
 exact e_neg (by omega) (E.now _)
theorem kids_bad (t : S66) (i : Nat) (hi : i < t.f4.length) (hl : t.f4.length ≤ 2) (h0 : i = 1 → sh t (r79 t.f4 0)) (h : ¬ ((sh t (r79 t.f4 i) ∧ ordK t i) ∧ B (r79 t.f4 i).f0 = true)) : E (fun k _ n => f166.l4 k n t.f4 t.f4.length i t.f0 t.f1 t.f2 t.f3 t.f4) (sb false) := by
 have he := (HB (r79 t.f4 i).f0).2.1
 apply e_loop
 simp only [f166.l4, f166.l4.step, decide_eq_true_eq, decide_eq_false_iff_not, prefix_eq, Option.bind_some, Int.toNat_natCast]
 simp only [fold79]
 refine e_pos (by omega) (e_pos (by omega) (e_pos (by omega) (e_ite (fun c1 => E.bind he (e_ite (fun c2 => ?_) (fun _ => E.now _))) (fun _ => E.now _))))
 by_cases c3 : pre (r79 t.f4 i).f0 t.f0 = true
 ·have hs : sh t (r79 t.f4 i) := ⟨by omega, c3⟩
  have hs1 := hs.1
  refine e_neg (bn (by omega) c3) ?_
  by_cases h1 : i = 1
  ·have h01 := (h0 h1).1
   exact e_pos (by omega) (e_pos (by omega) (e_pos (by omega) (e_pos (by omega) (e_pos (by omega) (e_pos (by omega) (e_ite (fun _ => E.now _) (fun c4 => absurd ⟨⟨hs, fun _ => c4⟩, by simpa using c2⟩ h)))))))
  ·exact absurd ⟨⟨hs, fun h2 => absurd h2 h1⟩, by simpa using c2⟩ h
 ·rw [Bool.not_eq_true] at c3
  exact e_pos (bq c3) (E.now _)
theorem kids_go (t : S66) (i : Nat) (hi : i < t.f4.length) (hl : t.f4.length ≤ 2) (h0 : i = 1 → sh t (r79 t.f4 0)) (h : (sh t (r79 t.f4 i) ∧ ordK t i) ∧ B (r79 t.f4 i).f0 = true) {r : Bool} (hr : E (fun k _ n => f166.l4 k n t.f4 t.f4.length ((i + 1 : Nat) : Int) t.f0 t.f1 t.f2 t.f3 t.f4) (sb r)) : E (fun k _ n => f166.l4 k n t.f4 t.f4.length i t.f0 t.f1 t.f2 t.f3 t.f4) (sb r) := by
 have hw : IntKind.i64.wrap ((i : Int) + 1) = ((i + 1 : Nat) : Int) := by rw [w64 (by omega) (by omega)]; omega
 obtain ⟨⟨hs, ho⟩, hb⟩ := h
 have hs1 := hs.1
 have he := (HB (r79 t.f4 i).f0).2.1
 rw [hb] at he
 apply e_loop
 simp only [f166.l4, f166.l4.step, decide_eq_true_eq, decide_eq_false_iff_not, prefix_eq, Option.bind_some, Int.toNat_natCast, hw]
 simp only [fold79]
 refine e_pos (by omega) (e_pos (by omega) (e_pos (by omega) (e_pos (by omega) (E.bind he (e_pos rfl (e_neg (bn (by omega) hs.2) ?_))))))
 by_cases h1 : i = 1
 ·have h01 := (h0 h1).1
  exact e_pos (by omega) (e_pos (by omega) (e_pos (by omega) (e_pos (by omega) (e_pos (by omega) (e_pos (by omega) (e_neg (ho h1) hr))))))
 ·exact e_neg (by omega) hr
omit HB in
theorem l11_eq (g : ByteArray → Bool → Int → Int → List S66 → Bool → Option Int) (k : Nat) : ∀ (n : Nat) (c : Int) (l : List S66) (m i : Int), f96i.l11_1 g k n c l m i = f96i.l11 g k n c l m i := by
 intro n
 induction n with
 | zero => intro c l m i; rfl
 | succ n ih =>
  intro c l m i
  simp only [f96i.l11_1, f96i.l11, f96i.l11_1.step, f96i.l11.step, ih]
omit HB in
theorem cnt_end (l : List S66) (c : Int) (i : Nat) (hi : l.length ≤ i) : E (fun k j n => f96i.l11 (f96i.r k j) k n c l l.length i) (.inr c) := by
 apply e_loop
 simp only [f96i.l11, f96i.l11.step, decide_eq_true_eq]
 exact e_neg (by omega) (E.now _)
omit HB in
theorem cnt_neg (l : List S66) (hl : l.length ≤ 2) (c : Int) (i : Nat) (hi : i < l.length) {d : Int} (hd : E (fun k j _ => f96i.r k j (r79 l i).f0 (r79 l i).f1 (r79 l i).f2 (r79 l i).f3 (r79 l i).f4 false) d) (h : d < 0) : E (fun k j n => f96i.l11 (f96i.r k j) k n c l l.length i) (.inl (-1, c)) := by
 apply e_loop
 simp only [f96i.l11, f96i.l11.step, decide_eq_true_eq, Int.toNat_natCast]
 exact e_pos (by omega) (e_pos (by omega) (e_pos (by omega) (E.bind hd (e_pos h (E.now _)))))
omit HB in
theorem cnt_step (l : List S66) (hl : l.length ≤ 2) (c : Int) (i : Nat) (hi : i < l.length) {d : Int} {r : (Int × Int) ⊕ Int} (hd : E (fun k j _ => f96i.r k j (r79 l i).f0 (r79 l i).f1 (r79 l i).f2 (r79 l i).f3 (r79 l i).f4 false) d) (h : 0 ≤ d) (hr : E (fun k j n => f96i.l11 (f96i.r k j) k n (IntKind.i64.wrap (c + d)) l l.length ((i + 1 : Nat) : Int)) r) : E (fun k j n => f96i.l11 (f96i.r k j) k n c l l.length i) r := by
 have hw : IntKind.i64.wrap ((i : Int) + 1) = ((i + 1 : Nat) : Int) := by rw [w64 (by omega) (by omega)]; omega
 apply e_loop
 simp only [f96i.l11, f96i.l11.step, decide_eq_true_eq, Int.toNat_natCast, hw]
 exact e_pos (by omega) (e_pos (by omega) (e_pos (by omega) (E.bind hd (e_neg (by omega) hr))))
omit HB in
theorem scnt_end (t : S66) (c : Int) (i : Nat) (hi : t.f4.length ≤ i) : E (fun k j n => f89i.l3 (f89i.r k j) k n c i t.f0 t.f1 t.f2 t.f3 t.f4) c := by
 apply e_loop
 simp only [f89i.l3, f89i.l3.step, decide_eq_true_eq]
 exact e_neg (by omega) (E.now _)
omit HB in
theorem scnt_step (t : S66) (hl : t.f4.length ≤ 2) (c : Int) (i : Nat) (hi : i < t.f4.length) {d r : Int} (hd : E (fun k j _ => f89i.r k j (r79 t.f4 i).f0 (r79 t.f4 i).f1 (r79 t.f4 i).f2 (r79 t.f4 i).f3 (r79 t.f4 i).f4) d)
  (hr : E (fun k j n => f89i.l3 (f89i.r k j) k n (IntKind.i64.wrap (c + d)) ((i + 1 : Nat) : Int) t.f0 t.f1 t.f2 t.f3 t.f4) r) : E (fun k j n => f89i.l3 (f89i.r k j) k n c i t.f0 t.f1 t.f2 t.f3 t.f4) r := by
 have hw : IntKind.i64.wrap ((i : Int) + 1) = ((i + 1 : Nat) : Int) := by rw [w64 (by omega) (by omega)]; omega
 apply e_loop
 simp only [f89i.l3, f89i.l3.step, decide_eq_true_eq, Int.toNat_natCast, hw]
 exact e_pos (by omega) (e_pos (by omega) (e_pos (by omega) (E.bind hd hr)))
def Both (t : S66) (top : Bool) (dep : Nat) (g : Bool) (c : Int) : Prop :=
 E (fun k j _ => f157i.r k j t.f0 t.f1 t.f2 t.f3 t.f4 top (dep : Int)) g ∧ E (fun k j _ => f96i.r k j t.f0 t.f1 t.f2 t.f3 t.f4 top) c ∧ (g = true → E (fun k j _ => f89i.r k j t.f0 t.f1 t.f2 t.f3 t.f4) c ∧ 0 ≤ c ∧ c ≤ (nd t : Int)) ∧ (g = false → c = -1)
def KidsP (t : S66) (dep : Nat) (s kk : Bool) : Prop :=
 E (fun k j n => f157i.l4 (f157i.r k j) k n (dep : Int) 0 t.f0 t.f1 t.f2 t.f3 t.f4) (sb s) ∧ E (fun k _ _ => f166 k t.f0 t.f1 t.f2 t.f3 t.f4) kk ∧ (s = true → kk = true) ∧
 (kk = true → ∀ c0 : Int, 0 ≤ c0 → c0 ≤ 1 → (s = true → ∃ c, E (fun k j n => f96i.l11 (f96i.r k j) k n c0 t.f4 t.f4.length 0) (.inr c) ∧ E (fun k j n => f89i.l3 (f89i.r k j) k n c0 0 t.f0 t.f1 t.f2 t.f3 t.f4) c ∧ 0 ≤ c ∧ c ≤ c0 + (nds t.f4 : Int)) ∧ (s = false → ∃ x, E (fun k j n => f96i.l11 (f96i.r k j) k n c0 t.f4 t.f4.length 0) (.inl (-1, x))))
omit HB in
theorem nds_two (t : S66) (h : t.f4.length = 2) : nds t.f4 = nd (r79 t.f4 0) + nd (r79 t.f4 1) := by
 obtain ⟨_, _, _, _, l⟩ := t
 match l, h with
 | [x, y], _ => simp [nds, r79]
omit HB in
theorem nds_one (t : S66) (h : t.f4.length = 1) : nds t.f4 = nd (r79 t.f4 0) := by
 obtain ⟨_, _, _, _, l⟩ := t
 match l, h with
 | [x], _ => simp [nds, r79]
theorem kidsP (t : S66) (dep : Nat) (hd : dep ≤ t.f0.size) (hb : B t.f0 = true) (hl : t.f4.length ≤ 2) (hn : nd t ≤ 2000000)
  (ih : ∀ i : Nat, i < t.f4.length → B (r79 t.f4 i).f0 = true → t.f0.size < (r79 t.f4 i).f0.size → ∃ g c, Both (r79 t.f4 i) false (dep + 1) g c) : ∃ s kk, KidsP t dep s kk := by
 have h128 := (HB t.f0).2.2.1 hb
 have hnd := nd_eq t
 have kf : ∀ {r : Bool}, E (fun k _ n => f166.l4 k n t.f4 t.f4.length ((0 : Nat) : Int) t.f0 t.f1 t.f2 t.f3 t.f4) (sb r) → E (fun k _ _ => f166 k t.f0 t.f1 t.f2 t.f3 t.f4) r := by
  intro r h
  simp only [f166, f166.step, decide_eq_true_eq]
  refine e_neg (by omega) (E.bind (e_use h) ?_)
  cases r <;> exact E.now _
 rcases Nat.eq_zero_or_pos t.f4.length with hz | hp
 ·refine ⟨true, true, spec_end t _ 0 (by omega), kf (kids_end t 0 (by omega)), fun _ => rfl, fun _ c0 a0 a1 => ⟨fun _ => ⟨c0, cnt_end t.f4 c0 0 (by omega), scnt_end t c0 0 (by omega), a0, by omega⟩, fun h => absurd h (by simp)⟩⟩
 ·have n0 : (0 : Nat) = 1 → sh t (r79 t.f4 0) := fun h => by omega
  by_cases q0 : (sh t (r79 t.f4 0) ∧ ordK t 0) ∧ B (r79 t.f4 0).f0 = true
  ·obtain ⟨g0, c0', G1, G2, G3, G4⟩ := ih 0 hp q0.2 q0.1.1.1
   rcases Nat.lt_or_ge 1 t.f4.length with h2 | h2
   ·have n1 : (1 : Nat) = 1 → sh t (r79 t.f4 0) := fun _ => q0.1.1
    by_cases q1 : (sh t (r79 t.f4 1) ∧ ordK t 1) ∧ B (r79 t.f4 1).f0 = true
    ·obtain ⟨g1, c1', K1, K2, K3, K4⟩ := ih 1 h2 q1.2 q1.1.1.1
     have hs := nds_two t (by omega)
     refine ⟨if g0 = true then (if g1 = true then true else false) else false, true, spec_go t dep (by omega) 0 hp hl n0 q0.1 G1 (fun _ => spec_go t dep (by omega) 1 h2 hl n1 q1.1 K1 (fun _ => spec_end t _ 2 (by omega))), kf (kids_go B HB t 0 hp hl n0 q0 (kids_go B HB t 1 h2 hl n1 q1 (kids_end t 2 (by omega)))), fun _ => rfl, fun _ c0 a0 a1 => ?_⟩
     cases g0 with
     | false =>
      have := G4 rfl
      exact ⟨fun h => by simp at h, fun _ => ⟨_, cnt_neg t.f4 hl c0 0 hp G2 (by omega)⟩⟩
     | true =>
      obtain ⟨G5, G6, G7⟩ := G3 rfl
      have w1 : IntKind.i64.wrap (c0 + c0') = c0 + c0' := w64 (by omega) (by omega)
      cases g1 with
      | false =>
       have := K4 rfl
       exact ⟨fun h => by simp at h, fun _ => ⟨_, cnt_step t.f4 hl c0 0 hp G2 G6 (by rw [w1]; exact cnt_neg t.f4 hl _ 1 h2 K2 (by omega))⟩⟩
      | true =>
       obtain ⟨K5, K6, K7⟩ := K3 rfl
       have w2 : IntKind.i64.wrap (c0 + c0' + c1') = c0 + c0' + c1' := w64 (by omega) (by omega)
       exact ⟨fun _ => ⟨c0 + c0' + c1', cnt_step t.f4 hl c0 0 hp G2 G6 (by rw [w1]; exact cnt_step t.f4 hl _ 1 h2 K2 K6 (by rw [w2]; exact cnt_end t.f4 _ 2 (by omega))), scnt_step t hl c0 0 hp G5 (by rw [w1]; exact scnt_step t hl _ 1 h2 K5 (by rw [w2]; exact scnt_end t _ 2 (by omega))), by omega, by omega⟩, fun h => by simp at h⟩
    ·refine ⟨false, false, ?_, kf (kids_go B HB t 0 hp hl n0 q0 (kids_bad B HB t 1 h2 hl n1 q1)), (fun h => absurd h (by simp)), (fun h => absurd h (by simp))⟩
     have e : E (fun k j n => f157i.l4 (f157i.r k j) k n (dep : Int) ((1 : Nat) : Int) t.f0 t.f1 t.f2 t.f3 t.f4) (sb false) := by
      by_cases q2 : sh t (r79 t.f4 1) ∧ ordK t 1
      ·have hnb : B (r79 t.f4 1).f0 = false := by
        rw [← Bool.not_eq_true]
        exact fun h => q1 ⟨q2, h⟩
       exact e_eq (spec_go (r := false) t dep (by omega) 1 h2 hl n1 q2 (right_notbits B HB _ false _ hnb) ((fun h => absurd h (by simp)))) (by simp)
      ·exact spec_bad t _ 1 h2 n1 q2
     exact e_eq (spec_go (r := false) t dep (by omega) 0 hp hl n0 q0.1 G1 (fun _ => e)) (by simp)
   ·have hs := nds_one t (by omega)
    refine ⟨if g0 = true then true else false, true, spec_go t dep (by omega) 0 hp hl n0 q0.1 G1 (fun _ => spec_end t _ 1 (by omega)), kf (kids_go B HB t 0 hp hl n0 q0 (kids_end t 1 (by omega))), fun _ => rfl, fun _ c0 a0 a1 => ?_⟩
    cases g0 with
    | false =>
     have := G4 rfl
     exact ⟨fun h => by simp at h, fun _ => ⟨_, cnt_neg t.f4 hl c0 0 hp G2 (by omega)⟩⟩
    | true =>
     obtain ⟨G5, G6, G7⟩ := G3 rfl
     have w1 : IntKind.i64.wrap (c0 + c0') = c0 + c0' := w64 (by omega) (by omega)
     exact ⟨fun _ => ⟨c0 + c0', cnt_step t.f4 hl c0 0 hp G2 G6 (by rw [w1]; exact cnt_end t.f4 _ 1 (by omega)), scnt_step t hl c0 0 hp G5 (by rw [w1]; exact scnt_end t _ 1 (by omega)), by omega, by omega⟩, fun h => by simp at h⟩
  ·refine ⟨false, false, ?_, kf (kids_bad B HB t 0 hp hl n0 q0), (fun h => absurd h (by simp)), (fun h => absurd h (by simp))⟩
   by_cases q2 : sh t (r79 t.f4 0) ∧ ordK t 0
   ·have hnb : B (r79 t.f4 0).f0 = false := by
     rw [← Bool.not_eq_true]
     exact fun h => q0 ⟨q2, h⟩
    exact e_eq (spec_go (r := false) t dep (by omega) 0 hp hl n0 q2 (right_notbits B HB _ false _ hnb) ((fun h => absurd h (by simp)))) (by simp)
   ·exact spec_bad t _ 0 hp n0 q2
theorem joint (n : Nat) : ∀ (t : S66) (top : Bool) (dep : Nat), nd t ≤ n → nd t ≤ 2000000 → B t.f0 = true → dep ≤ t.f0.size → (top = true → t.f0.toList = (⟨#[]⟩ : ByteArray).toList) → ∃ g c, Both t top dep g c := by
 induction n with
 | zero =>
  intro t top dep h
  have := nd_eq t
  omega
 | succ n ih =>
  intro t top dep hn hm hb hd ht
  have hr := specRoute_ev B HB t.f0 t.f2 t.f3
  have hi := implRoute_ev B HB t.f0 t.f2 t.f3
  have hnd := nd_eq t
  by_cases hl : t.f4.length ≤ 2
  ·obtain ⟨s, kk, S1, S2, S3, S4⟩ := kidsP B HB t dep hd hb hl hm (fun i hil hbi hsi => ih _ false (dep + 1) (by have := nd_kid hil; omega) (by have := nd_kid hil; omega) hbi (by omega) ((fun h => absurd h (by simp))))
   obtain ⟨R1, R2⟩ := right_node B HB t top dep hb hd ht hl S1
   cases kk with
   | false =>
    have hsf : s = false := by
     cases s
     ·rfl
     ·exact absurd (S3 rfl) (by simp)
    subst hsf
    refine ⟨false, -1, ?_, ?_, (fun h => absurd h (by simp)), fun _ => rfl⟩
    ·by_cases hN : nodeP t top
     ·exact R1 hN
     ·exact R2 hN
    ·apply e_rec
     simp only [f96i.r, f96i, f96i.step]
     exact E.bind S2 (e_pos rfl (E.now _))
   | true =>
    by_cases hN : nodeP t top
    ·have hcase : ∃ c0 : Int, (0 ≤ c0 ∧ c0 ≤ 1) ∧ (∀ u, E (fun k j n => f96i.l11 (f96i.r k j) k n c0 t.f4 t.f4.length 0) u → E (fun k j _ => f96i.r k j t.f0 t.f1 t.f2 t.f3 t.f4 top) (match u with | .inl x => x.1 | .inr x => x)) ∧ (∀ c, E (fun k j n => f89i.l3 (f89i.r k j) k n c0 0 t.f0 t.f1 t.f2 t.f3 t.f4) c → E (fun k j _ => f89i.r k j t.f0 t.f1 t.f2 t.f3 t.f4) c) := by
      have jj : ∀ (c0 : Int) u, E (fun k j n => f96i.l11 (f96i.r k j) k n c0 t.f4 t.f4.length 0) u → E (fun k j _ => (f96i.l11 (f96i.r k j) k k c0 t.f4 t.f4.length 0).bind (Sum.elim (fun t14 => some t14.1) (fun t15 => some t15))) (match u with | .inl x => x.1 | .inr x => x) := by
       intro c0 u h
       refine E.bind (e_use h) ?_
       cases u <;> exact E.now _
      rcases hN with ⟨h1, h2, h3⟩ | ⟨h1, h2, h3, h4⟩
      ·rw [hb, decide_eq_true h2, decide_eq_true h3] at hi
       refine ⟨1, by omega, fun u h => ?_, fun c h => ?_⟩
       ·have hj := jj 1 u h
        apply e_rec
        simp only [f96i.r, f96i, f96i.step]
        exact E.bind S2 (e_neg (by simp) (e_pos h1 (E.bind hi (e_neg (by simp) hj))))
       ·apply e_rec
        simp only [f89i.r, f89i, f89i.step, f162, f162.step, if_pos h1]
        exact E.bind (E.now _) (E.bind (e_use h) (E.now _))
      ·refine ⟨0, by omega, fun u h => ?_, fun c h => ?_⟩
       ·have hj := jj 0 u h
        apply e_rec
        simp only [f96i.r, f96i, f96i.step, decide_eq_false_iff_not, decide_eq_true_eq, l11_eq]
        exact E.bind S2 (e_neg (by simp) (e_neg h1 (e_pos (by omega) (e_pos (by omega) (e_ite (fun c5 => e_neg (by rcases h4 with h4 | h4; exact absurd h4 (by simpa using c5); omega) hj) (fun _ => hj))))))
       ·apply e_rec
        simp only [f89i.r, f89i, f89i.step, f162, f162.step, if_neg h1]
        exact E.bind (E.now _) (E.bind (e_use h) (E.now _))
     obtain ⟨c0, ⟨a0, a1⟩, E1, E2⟩ := hcase
     obtain ⟨X1, X2⟩ := S4 rfl c0 a0 a1
     cases s with
     | true =>
      obtain ⟨c, C1, C2, C3, C4⟩ := X1 rfl
      exact ⟨true, c, R1 hN, E1 _ C1, fun h => ⟨E2 c C2, C3, by omega⟩, fun h => absurd h (by simp)⟩
     | false =>
      obtain ⟨x, C1⟩ := X2 rfl
      exact ⟨false, -1, R1 hN, E1 _ C1, fun h => absurd h (by simp), fun _ => rfl⟩
    ·refine ⟨false, -1, R2 hN, ?_, (fun h => absurd h (by simp)), fun _ => rfl⟩
     apply e_rec
     simp only [f96i.r, f96i, f96i.step, decide_eq_false_iff_not, decide_eq_true_eq]
     refine E.bind S2 (e_neg (by simp) (e_ite (fun h1 => E.bind hi (e_pos ?_ (E.now _))) (fun h1 => e_ite (fun h2 => e_ite (fun h3 => e_ite (fun h4 => e_pos (fun h5 => hN (.inr ⟨h1, by omega, by omega, .inr (by omega)⟩)) (E.now _)) (fun h4 => absurd (.inr ⟨h1, by omega, by omega, .inl (by simpa using h4)⟩) hN)) (fun _ => E.now _)) (fun _ => E.now _))))
     rw [hb, Bool.true_and, Bool.not_eq_true', Bool.eq_false_iff, Ne, Bool.and_eq_true, decide_eq_true_eq, decide_eq_true_eq]
     exact fun h => hN (.inl ⟨h1, h.1, h.2⟩)
  ·refine ⟨false, -1, right_many t top _ (by omega) hr, ?_, (fun h => absurd h (by simp)), fun _ => rfl⟩
   apply e_rec
   simp only [f96i.r, f96i, f96i.step, f166, f166.step, decide_eq_true_eq]
   exact E.bind (e_pos (by omega) (E.now _)) (e_pos rfl (E.now _))
end
theorem eta66 (x : S66) : (⟨x.f0, x.f1, x.f2, x.f3, x.f4⟩ : S66) = x := by cases x; rfl
def Bt (s : ByteArray) : Prop := s.size ≤ 128 ∧ ∀ i : Nat, i < s.size → bt s (i : Int) = 48 ∨ bt s (i : Int) = 49
theorem bits_yes (s : ByteArray) (h : Bt s) : E (fun k _ _ => f158 k s) true := by
 have loop : ∀ (d i : Nat), i + d = s.size → E (fun k _ n => f158.l4 k n s (i : Int)) (.inr ()) := by
  intro d
  induction d with
  | zero =>
   intro i hi
   apply e_loop
   simp only [f158.l4, f158.l4.step, decide_eq_true_eq]
   exact e_neg (by omega) (E.now _)
  | succ d ih =>
   intro i hi
   have hs := h.1
   have hw : IntKind.i64.wrap ((i : Int) + 1) = ((i + 1 : Nat) : Int) := by rw [w64 (by omega) (by omega)]; omega
   have g1 := ih (i + 1) (by omega)
   apply e_loop
   simp only [f158.l4, f158.l4.step, decide_eq_true_eq, hw]
   rcases h.2 i (by omega) with h0 | h0
   ·exact e_pos (by omega) (e_pos (by omega) (e_pos (by omega) (e_neg (by simpa using h0) g1)))
   ·exact e_pos (by omega) (e_pos (by omega) (e_pos (by omega) (e_pos (by omega) (e_pos (by omega) (e_pos (by omega) (e_neg (by simpa using h0) g1))))))
 have hs := h.1
 simp only [f158, f158.step, decide_eq_true_eq]
 refine e_neg (by omega) (E.bind (e_use (loop s.size 0 (by omega))) (E.now _))
inductive RT (m : Nat) : Bool → S66 → Prop
 | mk {top : Bool} {t : S66} (hb : Bt t.f0) (hm : t.f0.size ≤ m) (hN : nodeP t top) (hl : t.f4.length ≤ 2) (hk : ∀ i, i < t.f4.length → sh t (r79 t.f4 i) ∧ ordK t i) (hr : ∀ i, i < t.f4.length → RT m false (r79 t.f4 i)) : RT m top t
theorem RT.intro {m : Nat} {top : Bool} {t : S66} (hb : Bt t.f0) (hm : t.f0.size ≤ m) (hN : nodeP t top) (hl : t.f4.length ≤ 2) (hk : ∀ i, i < t.f4.length → (sh t (r79 t.f4 i) ∧ ordK t i) ∧ RT m false (r79 t.f4 i)) : RT m top t := .mk hb hm hN hl (fun i hi => (hk i hi).1) (fun i hi => (hk i hi).2)
theorem RT.hb {m : Nat} {top : Bool} {t : S66} (h : RT m top t) : Bt t.f0 := by cases h; assumption
theorem RT.le {m : Nat} {top : Bool} {t : S66} (h : RT m top t) : t.f0.size ≤ m := by cases h; assumption
theorem RT.nP {m : Nat} {top : Bool} {t : S66} (h : RT m top t) : nodeP t top := by cases h; assumption
theorem RT.two {m : Nat} {top : Bool} {t : S66} (h : RT m top t) : t.f4.length ≤ 2 := by cases h; assumption
theorem RT.kid {m : Nat} {top : Bool} {t : S66} (h : RT m top t) (i : Nat) (hi : i < t.f4.length) : (sh t (r79 t.f4 i) ∧ ordK t i) ∧ RT m false (r79 t.f4 i) := by
 cases h with | mk _ _ _ _ hk hr => exact ⟨hk i hi, hr i hi⟩
theorem RT.empty (m : Nat) : RT m true ⟨ByteArray.empty, false, 0, 0, []⟩ :=
 .intro ⟨by simp, fun i hi => absurd hi (by simp)⟩ (by simp) (.inr ⟨by simp, rfl, rfl, .inl rfl⟩) (by simp) (fun i hi => absurd hi (by simp))
section
variable (B : ByteArray → Bool) (HB : ∀ s, E (fun k _ _ => f158 k s) (B s) ∧ E (fun k _ _ => f125 k s) (B s) ∧ (B s = true → s.size ≤ 128) ∧ (s.size = 0 → B s = true))
include HB
theorem Bt.b {s : ByteArray} (h : Bt s) : B s = true := e_unique (HB s).1 (bits_yes s h)
theorem RT.right {m : Nat} {top : Bool} {t : S66} (h : RT m top t) : ∀ (dep : Nat), dep ≤ t.f0.size → (top = true → t.f0.toList = (⟨#[]⟩ : ByteArray).toList) → E (fun k j _ => f157i.r k j t.f0 t.f1 t.f2 t.f3 t.f4 top (dep : Int)) true := by
 induction h with
 | @mk top t hb hm hN hl hk _ ih =>
  intro dep hd ht
  have hb' := hb.b B HB
  have hs := hb.1
  have kid : ∀ i, i < t.f4.length → E (fun k j _ => f157i.r k j (r79 t.f4 i).f0 (r79 t.f4 i).f1 (r79 t.f4 i).f2 (r79 t.f4 i).f3 (r79 t.f4 i).f4 false ((dep + 1 : Nat) : Int)) true := fun i hi => by
   have h1 := (hk i hi).1.1
   exact ih i hi (dep + 1) (by omega) (fun h => absurd h (by simp))
  have h0 : ∀ i : Nat, i < t.f4.length → (i = 1 → sh t (r79 t.f4 0)) := fun i hi e => (hk 0 (by omega)).1
  have go : E (fun k j n => f157i.l4 (f157i.r k j) k n (dep : Int) 0 t.f0 t.f1 t.f2 t.f3 t.f4) (sb true) := by
   have e2 : ∀ i : Nat, t.f4.length ≤ i → E (fun k j n => f157i.l4 (f157i.r k j) k n (dep : Int) (i : Int) t.f0 t.f1 t.f2 t.f3 t.f4) (sb true) := fun i hi => spec_end t _ i hi
   have st : ∀ i : Nat, i < t.f4.length → E (fun k j n => f157i.l4 (f157i.r k j) k n (dep : Int) ((i + 1 : Nat) : Int) t.f0 t.f1 t.f2 t.f3 t.f4) (sb true) → E (fun k j n => f157i.l4 (f157i.r k j) k n (dep : Int) (i : Int) t.f0 t.f1 t.f2 t.f3 t.f4) (sb true) := fun i hi hr => by
    have := spec_go (r := true) t dep (by omega) i hi hl (h0 i hi) (hk i hi) (kid i hi) (fun _ => hr)
    simpa using this
   rcases Nat.lt_or_ge 0 t.f4.length with c0 | c0
   ·refine st 0 c0 ?_
    rcases Nat.lt_or_ge 1 t.f4.length with c1 | c1
    ·exact st 1 c1 (e2 2 (by omega))
    ·exact e2 1 c1
   ·exact e2 0 c0
  exact (right_node B HB t top dep hb' hd ht hl go).1 hN
theorem RT.ok {m : Nat} {t : S66} (h : RT m true t) (h0 : t.f0.size = 0) (hn : nd t ≤ 60) : E (fun k _ _ => f86 k t.f0 t.f1 t.f2 t.f3 t.f4) true ∧ E (fun k _ _ => f92 k t.f0 t.f1 t.f2 t.f3 t.f4) true := by
 have h0' : t.f0.toList = (⟨#[]⟩ : ByteArray).toList := (empty_iff _).2 h0
 obtain ⟨g, c, G1, G2, G3, G4⟩ := joint B HB (nd t) t true 0 (Nat.le_refl _) (by omega) ((HB t.f0).2.2.2 h0) (by omega) (fun _ => h0')
 have hg : g = true := e_unique G1 (h.right B HB 0 (by omega) (fun _ => h0'))
 obtain ⟨G5, G6, G7⟩ := G3 hg
 subst hg
 simp only [f86, f86.step, f92, f92.step, f157, f89, f96, impl_in, Option.bind_some, decide_eq_true_eq]
 exact ⟨E.bind (e_fn G1) (e_pos rfl (E.bind (e_fn G5) (e_fin (by simp; omega)))), e_pos h0' (E.bind (e_fn G2) (e_fin (by simp; omega)))⟩
end
theorem RT.longest {m : Nat} {top : Bool} {t : S66} (h : RT m top t) : ∃ v : Int, E (fun k j _ => f121i.r k j t.f0 t.f1 t.f2 t.f3 t.f4) v ∧ v ≤ m := by
 induction h with
 | @mk top t hb hm hN hl hk _ ih =>
  have loop : ∀ (d i : Nat) (a : Int), i + d = t.f4.length → a ≤ m → ∃ v : Int, E (fun k j n => f121i.l3 (f121i.r k j) k n a t.f4 t.f4.length (i : Int)) v ∧ v ≤ m := by
   intro d
   induction d with
   | zero =>
    intro i a hi ha
    refine ⟨a, ?_, ha⟩
    apply e_loop
    simp only [f121i.l3, f121i.l3.step, decide_eq_true_eq]
    exact e_neg (by omega) (E.now _)
   | succ d ihd =>
    intro i a hi ha
    obtain ⟨v, h1, h2⟩ := ih i (by omega)
    obtain ⟨u, h3, h4⟩ := ihd (i + 1) (if v > a then v else a) (by omega) (by split <;> omega)
    have hw : IntKind.i64.wrap ((i : Int) + 1) = ((i + 1 : Nat) : Int) := by rw [w64 (by omega) (by omega)]; omega
    refine ⟨u, ?_, h4⟩
    apply e_loop
    simp only [f121i.l3, f121i.l3.step, decide_eq_true_eq, Int.toNat_natCast, hw]
    exact e_pos (by omega) (e_pos (by omega) (e_pos (by omega) (E.bind h1 h3)))
  obtain ⟨v, h1, h2⟩ := loop t.f4.length 0 (t.f0.size : Int) (by omega) (by omega)
  refine ⟨v, ?_, h2⟩
  apply e_rec
  simp only [f121i.r, f121i, f121i.step]
  exact E.bind (e_use h1) (E.now _)
theorem RT.bits {m : Nat} {top : Bool} {t : S66} (h : RT m top t) : E (fun k j _ => f172i.r k j t.f0 t.f1 t.f2 t.f3 t.f4 (m : Int)) true := by
 induction h with
 | @mk top t hb hm hN hl hk _ ih =>
  have loop : ∀ (d i : Nat), i + d = t.f4.length → E (fun k j n => f172i.l4 (f172i.r k j) k n (m : Int) (i : Int) t.f0 t.f1 t.f2 t.f3 t.f4) (.inr ()) := by
   intro d
   induction d with
   | zero =>
    intro i hi
    apply e_loop
    simp only [f172i.l4, f172i.l4.step, decide_eq_true_eq]
    exact e_neg (by omega) (E.now _)
   | succ d ihd =>
    intro i hi
    have hw : IntKind.i64.wrap ((i : Int) + 1) = ((i + 1 : Nat) : Int) := by rw [w64 (by omega) (by omega)]; omega
    apply e_loop
    simp only [f172i.l4, f172i.l4.step, decide_eq_true_eq, Int.toNat_natCast, hw]
    exact e_pos (by omega) (e_pos (by omega) (e_pos (by omega) (E.bind (ih i (by omega)) (e_neg (by simp) (ihd (i + 1) (by omega))))))
  apply e_rec
  simp only [f172i.r, f172i, f172i.step, decide_eq_true_eq]
  exact e_neg (by omega) (E.bind (e_use (loop t.f4.length 0 (by omega))) (E.now _))
theorem nth_app (l : List S66) (i : Nat) (h : i < l.length) : l.take i ++ [r79 l i] = l.take (i + 1) := by
 rw [r79_at l i h, List.take_succ_eq_append_getElem h]
theorem own_trie (n : Nat) : ∀ (t : S66), nd t ≤ n → n ≤ 100000 → E (fun k j _ => f90i.r k j t.f0 t.f1 t.f2 t.f3 t.f4) (t.f0, t.f1, t.f2, t.f3, t.f4) := by
 induction n with
 | zero => intro t h; have := nd_eq t; omega
 | succ n ih =>
  intro t hn hm
  have hnd := nd_eq t
  have hlen := nds_len t.f4
  have loop : ∀ (d i : Nat), i + d = t.f4.length → E (fun k j n => f90i.l3 (f90i.r k j) k n (i : Int) t.f0 t.f1 t.f2 t.f3 t.f4 ByteArray.empty false 0 0 t.f0 t.f1 t.f2 t.f3 (t.f4.take i)) (ByteArray.empty, false, 0, 0, t.f0, t.f1, t.f2, t.f3, t.f4) := by
   intro d
   induction d with
   | zero =>
    intro i hi
    apply e_loop
    simp only [f90i.l3, f90i.l3.step, decide_eq_true_eq]
    refine e_neg (by omega) (e_fin ?_)
    rw [List.take_of_length_le (by omega)]
   | succ d ihd =>
    intro i hi
    have hil : i < t.f4.length := by omega
    have hw : IntKind.i64.wrap ((i : Int) + 1) = ((i + 1 : Nat) : Int) := by rw [w64 (by omega) (by omega)]; omega
    have hk := ih (r79 t.f4 i) (by have := nd_kid hil; omega) (by omega)
    apply e_loop
    simp only [f90i.l3, f90i.l3.step, decide_eq_true_eq, Int.toNat_natCast, hw]
    refine e_pos (by omega) (e_pos (by omega) (e_pos (by omega) (E.bind hk (e_pos ?_ ?_))))
    ·simp [maxN]; omega
    ·have := ihd (i + 1) (by omega)
     rw [← nth_app t.f4 i hil] at this
     simp only [eta66]
     exact this
  apply e_rec
  simp only [f90i.r, f90i, f90i.step]
  have := loop t.f4.length 0 (by omega)
  exact E.bind (e_use this) (E.now _)
theorem bt_extract (s : ByteArray) (n i : Nat) (hi : i < n) (hn : n ≤ s.size) : bt (s.extract 0 n) (i : Int) = bt s (i : Int) := by
 have h1 : i < (s.extract 0 n).size := by simp [ByteArray.size_extract]; omega
 simp only [bt, Int.toNat_natCast]
 rw [dif_pos h1, dif_pos (by omega)]
 congr 2
 simp [ByteArray.getElem_extract]
theorem Bt.extract {s : ByteArray} (h : Bt s) (n : Nat) (hn : n ≤ s.size) : Bt (s.extract 0 n) := by
 have hs : (s.extract 0 n).size = n := by simp [ByteArray.size_extract]; omega
 refine ⟨by have := h.1; omega, fun i hi => ?_⟩
 rw [hs] at hi
 rw [bt_extract s n i hi hn]
 exact h.2 i (by omega)
theorem toList_inj {a b : ByteArray} (h : a.toList = b.toList) : a = b := by
 rw [ByteArray.toList_eq, ByteArray.toList_eq] at h
 exact ByteArray.ext (Array.toList_inj.1 h)
theorem bt_ext {a b : ByteArray} (h : a.size = b.size) (h2 : ∀ i : Nat, i < a.size → bt a (i : Int) = bt b (i : Int)) : a = b := by
 apply ByteArray.ext
 apply Array.ext
 ·exact h
 ·intro i h3 h4
  have := h2 i h3
  simp only [bt, Int.toNat_natCast] at this
  rw [dif_pos (show i < a.size from h3), dif_pos (show i < b.size from h4)] at this
  exact UInt8.toNat_inj.1 (by exact_mod_cast this)
def Beg (a b : ByteArray) : Prop := a.size ≤ b.size ∧ ∀ i : Nat, i < a.size → bt a (i : Int) = bt b (i : Int)
theorem Beg.refl (a : ByteArray) : Beg a a := ⟨Nat.le_refl _, fun _ _ => rfl⟩
theorem Beg.trans {a b c : ByteArray} (h : Beg a b) (h' : Beg b c) : Beg a c := ⟨Nat.le_trans h.1 h'.1, fun i hi => (h.2 i hi).trans (h'.2 i (Nat.lt_of_lt_of_le hi h.1))⟩
theorem Beg.ext {a b : ByteArray} (h : Beg a b) (hs : a.size = b.size) : a = b := bt_ext hs h.2
theorem beg_extract (s : ByteArray) (n : Nat) (hn : n ≤ s.size) : Beg (s.extract 0 n) s := by
 have hs : (s.extract 0 n).size = n := by simp [ByteArray.size_extract]; omega
 exact ⟨by omega, fun i hi => bt_extract s n i (by omega) hn⟩
theorem beg_iff (a b : ByteArray) (h : a.size ≤ b.size) : pre b a = true ↔ Beg a b := by
 have hs : (b.extract 0 a.size).size = a.size := by simp [ByteArray.size_extract]; omega
 simp only [pre, decide_eq_true_eq]
 constructor
 ·intro e
  have e := toList_inj e
  have := beg_extract b a.size h
  rw [e] at this
  exact this
 ·intro hb
  have : b.extract 0 a.size = a := bt_ext hs fun i hi => by
   rw [hs] at hi
   rw [bt_extract b a.size i hi h]
   exact (hb.2 i hi).symm
  rw [this]
theorem sh_iff (t kid : S66) : sh t kid ↔ t.f0.size < kid.f0.size ∧ Beg t.f0 kid.f0 := by
 unfold sh
 constructor
 ·rintro ⟨h1, h2⟩; exact ⟨h1, (beg_iff _ _ (by omega)).1 h2⟩
 ·rintro ⟨h1, h2⟩; exact ⟨h1, (beg_iff _ _ (by omega)).2 h2⟩
theorem common_run (a b : ByteArray) (ha : a.size ≤ 1000) : ∃ n : Nat, n ≤ a.size ∧ n ≤ b.size ∧ E (fun k _ _ => f192 k a b) (a.extract 0 n) ∧ (∀ i : Nat, i < n → bt a (i : Int) = bt b (i : Int)) ∧ (n < a.size → n < b.size → bt a (n : Int) ≠ bt b (n : Int)) := by
 have loop : ∀ (d i : Nat), i + d = a.size → i ≤ b.size → (∀ j : Nat, j < i → bt a (j : Int) = bt b (j : Int)) → ∃ n : Nat, i ≤ n ∧ n ≤ a.size ∧ n ≤ b.size ∧ E (fun k _ q => f192.l2 k q a b (i : Int)) (a, (n : Int)) ∧ (∀ j : Nat, j < n → bt a (j : Int) = bt b (j : Int)) ∧ (n < a.size → n < b.size → bt a (n : Int) ≠ bt b (n : Int)) := by
  intro d
  induction d with
  | zero =>
   intro i hi hb hj
   refine ⟨i, Nat.le_refl _, by omega, hb, ?_, hj, fun h => by omega⟩
   apply e_loop
   simp only [f192.l2, f192.l2.step, decide_eq_true_eq]
   exact e_neg (by omega) (E.now _)
  | succ d ih =>
   intro i hi hb hj
   have hw : IntKind.i64.wrap ((i : Int) + 1) = ((i + 1 : Nat) : Int) := by rw [w64 (by omega) (by omega)]; omega
   rcases Nat.lt_or_ge i b.size with hib | hib
   ·by_cases he : bt a (i : Int) = bt b (i : Int)
    ·obtain ⟨n, h1, h2, h3, h4, h5, h6⟩ := ih (i + 1) (by omega) (by omega) (fun j hj' => by
      rcases Nat.lt_or_ge j i with h | h
      ·exact hj j h
      ·have : j = i := by omega
       subst this; exact he)
     refine ⟨n, by omega, h2, h3, ?_, h5, h6⟩
     apply e_loop
     simp only [f192.l2, f192.l2.step, decide_eq_true_eq, hw]
     exact e_pos (by omega) (e_pos (by omega) (e_pos (by omega) (e_pos (by omega) (e_pos (by omega) (e_pos (by omega) (e_pos he h4))))))
    ·refine ⟨i, Nat.le_refl _, by omega, hb, ?_, hj, fun _ _ => he⟩
     apply e_loop
     simp only [f192.l2, f192.l2.step, decide_eq_true_eq]
     exact e_pos (by omega) (e_pos (by omega) (e_pos (by omega) (e_pos (by omega) (e_pos (by omega) (e_pos (by omega) (e_neg he (E.now _)))))))
   ·refine ⟨i, Nat.le_refl _, by omega, hb, ?_, hj, fun _ h => by omega⟩
    apply e_loop
    simp only [f192.l2, f192.l2.step, decide_eq_true_eq]
    exact e_pos (by omega) (e_neg (by omega) (E.now _))
 obtain ⟨n, _, h2, h3, h4, h5, h6⟩ := loop a.size 0 (by omega) (by omega) (fun j hj => absurd hj (by omega))
 refine ⟨n, h2, h3, ?_, h5, h6⟩
 simp only [f192, f192.step]
 exact E.bind (e_use h4) (e_pos (by show (0 : Int) ≤ (n : Int); omega) (e_pos (by show (n : Int) ≤ ((a.size : Nat) : Int); omega) (e_fin (by simp))))
theorem pair_run (k : S66) (s : ByteArray) (b : Bool) (v c : Int) (ks : List S66) (at_ : Nat) (h1 : at_ < k.f0.size) (h2 : at_ < s.size) :
  ∀ q : Nat, f161 q [k] s b v c ks (at_ : Int) = some (if bt k.f0 (at_ : Int) > bt s (at_ : Int) then [⟨s, b, v, c, ks⟩, k] else [k, ⟨s, b, v, c, ks⟩]) := by
 intro q
 have e : (List.getD [k] 0 (⟨ByteArray.empty, false, 0, 0, []⟩ : S66)) = k := rfl
 simp only [f161, f161.step, decide_eq_true_eq, e, eta66, List.length_singleton, List.length_nil, List.length_cons, List.nil_append, List.length_append]
 rw [if_pos (by omega), if_pos (by omega), if_pos (by omega), if_pos (by omega), if_pos (by omega), if_pos (by omega)]
 split
 ·rw [if_pos (by omega)]
 ·rw [if_pos (by simp [maxN]), if_pos (by simp [maxN])]; rfl
theorem pair_none (s : ByteArray) (b : Bool) (v c : Int) (ks : List S66) (at_ : Int) (q : Nat) : f161 q [] s b v c ks at_ = some [⟨s, b, v, c, ks⟩] := by
 simp only [f161, f161.step, decide_eq_true_eq, List.length_nil, List.nil_append, List.length_append, List.length_cons]
 rw [if_neg (by omega), if_pos (by simp [maxN]), if_pos (by simp [maxN])]
abbrev NT := ByteArray × Bool × Int × Int × List S66
def ofT (t : S66) : NT := (t.f0, t.f1, t.f2, t.f3, t.f4)
structure Rte (m : Nat) (s : ByteArray) (v c : Int) : Prop where
 b : Bt s
 le : s.size ≤ m
 v0 : 0 ≤ v ∧ v ≤ 99
 c0 : 0 ≤ c ∧ c ≤ 16
theorem RT.leaf {m : Nat} {s : ByteArray} {v c : Int} (h : Rte m s v c) (top : Bool) : RT m top ⟨s, true, v, c, []⟩ :=
 .intro h.b h.le (.inl ⟨rfl, h.v0, h.c0⟩) (by simp) (fun i hi => absurd hi (by simp))
theorem RT.pair {m : Nat} {top : Bool} {s : ByteArray} {f : Bool} {v c : Int} {x y : S66} (hb : Bt s) (hm : s.size ≤ m) (hN : nodeP ⟨s, f, v, c, [x, y]⟩ top)
  (hx : RT m false x) (hy : RT m false y) (sx : s.size < x.f0.size ∧ Beg s x.f0) (sy : s.size < y.f0.size ∧ Beg s y.f0) (ho : bt x.f0 (s.size : Int) < bt y.f0 (s.size : Int)) : RT m top ⟨s, f, v, c, [x, y]⟩ := by
 refine .intro hb hm hN (by simp) (fun i hi => ?_)
 rcases (show i = 0 ∨ i = 1 by simp at hi; omega) with rfl | rfl
 ·exact ⟨⟨(sh_iff _ _).2 sx, fun h => by omega⟩, hx⟩
 ·exact ⟨⟨(sh_iff _ _).2 sy, fun _ => by show ¬ bt x.f0 (s.size : Int) ≥ bt y.f0 (s.size : Int); omega⟩, hy⟩
theorem RT.one {m : Nat} {top : Bool} {s : ByteArray} {f : Bool} {v c : Int} {x : S66} (hb : Bt s) (hm : s.size ≤ m) (hN : nodeP ⟨s, f, v, c, [x]⟩ top) (hx : RT m false x) (sx : s.size < x.f0.size ∧ Beg s x.f0) : RT m top ⟨s, f, v, c, [x]⟩ := by
 refine .intro hb hm hN (by simp) (fun i hi => ?_)
 have : i = 0 := by simp at hi; omega
 subst this
 exact ⟨⟨(sh_iff _ _).2 sx, fun h => by omega⟩, hx⟩
theorem bits_ne {s t : ByteArray} (hs : Bt s) (ht : Bt t) (i : Nat) (h1 : i < s.size) (h2 : i < t.size) (h : bt s (i : Int) ≠ bt t (i : Int)) : (bt s (i : Int) = 48 ∧ bt t (i : Int) = 49) ∨ (bt s (i : Int) = 49 ∧ bt t (i : Int) = 48) := by
 have := hs.2 i h1
 have := ht.2 i h2
 omega
def AddP (m : Nat) (t : S66) : Prop := ∀ (top : Bool) (s : ByteArray) (v c : Int), RT m top t → Rte m s v c → Beg t.f0 s → ∃ (x : NT ⊕ NT) (t' : S66), E (fun k j _ => f88i.r k j t.f0 t.f1 t.f2 t.f3 t.f4 s v c) x ∧ Sum.elim id id x = ofT t' ∧ RT m top t' ∧ t'.f0 = t.f0 ∧ nd t' ≤ nd t + 2
theorem split_run {m : Nat} {k : S66} (hA : AddP m k) {s : ByteArray} {v c : Int} (hk : RT m false k) (hr : Rte m s v c) (p : Nat) (hp : p < k.f0.size) (hp2 : p < s.size) (hpb : ∀ i : Nat, i ≤ p → bt k.f0 (i : Int) = bt s (i : Int)) :
  ∃ (x : NT ⊕ NT) (t' : S66), E (fun q j _ => f160i (f88i.r q j) q k.f0 k.f1 k.f2 k.f3 k.f4 s v c) x ∧ Sum.elim id id x = ofT t' ∧ RT m false t' ∧ p < t'.f0.size ∧ (∀ i : Nat, i ≤ p → bt t'.f0 (i : Int) = bt k.f0 (i : Int)) ∧ nd t' ≤ nd k + 2 := by
 have hkb := hk.hb
 obtain ⟨n, n1, n2, hE, heq, hne⟩ := common_run k.f0 s (by have := hkb.1; omega)
 have hnp : p < n := by
  rcases Nat.lt_or_ge p n with h | h
  ·exact h
  ·exact absurd (hpb n h) (hne (by omega) (by omega))
 have hsz : (k.f0.extract 0 n).size = n := by simp [ByteArray.size_extract]; omega
 have hbeg := beg_extract k.f0 n n1
 simp only [f160i, f160i.step, decide_eq_true_eq, f159, f159.step, Option.bind_some, eta66]
 by_cases c1 : (k.f0.extract 0 n).toList = k.f0.toList
 ·have e1 : n = k.f0.size := by rw [← hsz, toList_inj c1]
  obtain ⟨x, t', h1, h2, h3, h4, h5⟩ := hA false s v c hk hr ⟨by omega, fun i hi => heq i (by omega)⟩
  refine ⟨.inl (ofT t'), t', E.bind hE (e_pos c1 (E.bind h1 ?_)), rfl, h3, by rw [h4]; omega, fun i hi => by rw [h4], h5⟩
  cases x with
  | inl y => simp at h2; subst h2; exact E.now _
  | inr y => simp at h2; subst h2; exact E.now _
 ·have hlt : n < k.f0.size := by
   rcases Nat.lt_or_ge n k.f0.size with h | h
   ·exact h
   ·exfalso; apply c1
    have : n = k.f0.size := by omega
    rw [hbeg.ext (by omega)]
  by_cases c2 : (k.f0.extract 0 n).toList = s.toList
  ·have e2 := toList_inj c2
   have e3 : n = s.size := by rw [← e2]; exact hsz.symm
   have hks : Beg s k.f0 := by rw [← e2]; exact hbeg
   refine ⟨.inr (s, true, v, c, [k]), ⟨s, true, v, c, [k]⟩, E.bind hE (e_neg c1 (e_pos c2 (E.now _))), rfl, RT.one hr.b hr.le (.inl ⟨rfl, hr.v0, hr.c0⟩) hk ⟨by omega, hks⟩, hp2, fun i hi => (hpb i hi).symm, ?_⟩
   simp [nd, nds]; omega
  ·have hns : n < s.size := by
    rcases Nat.lt_or_ge n s.size with h | h
    ·exact h
    ·exfalso; apply c2
     have : n = s.size := by omega
     have hb : Beg (k.f0.extract 0 n) s := ⟨by omega, fun i hi => by rw [bt_extract k.f0 n i (by omega) n1]; exact heq i (by omega)⟩
     rw [hb.ext (by omega)]
   have hdiff := hne hlt hns
   have hsb : Beg (k.f0.extract 0 n) s := ⟨by omega, fun i hi => by rw [bt_extract k.f0 n i (by omega) n1]; exact heq i (by omega)⟩
   have hlf := RT.leaf hr false
   have hBt := hkb.extract n n1
   have hle : (k.f0.extract 0 n).size ≤ m := by have := hk.le; omega
   have hpr := pair_run k s true v c [] n hlt hns
   rcases bits_ne hkb hr.b n hlt hns hdiff with ⟨d1, d2⟩ | ⟨d1, d2⟩
   ·refine ⟨.inl (k.f0.extract 0 n, false, 0, 0, [k, ⟨s, true, v, c, []⟩]), ⟨k.f0.extract 0 n, false, 0, 0, [k, ⟨s, true, v, c, []⟩]⟩, E.bind hE (e_neg c1 (e_neg c2 ?_)), rfl, RT.pair hBt hle (.inr ⟨by simp, rfl, rfl, .inr rfl⟩) hk hlf ⟨by omega, hbeg⟩ ⟨by show _ < s.size; omega, hsb⟩ (by rw [hsz]; show bt k.f0 _ < bt s _; omega), by show p < (k.f0.extract 0 n).size; omega, fun i hi => bt_extract k.f0 n i (by omega) n1, by simp [nd, nds]; omega⟩
    rw [hsz]
    exact E.bind (a := [k, (⟨s, true, v, c, []⟩ : S66)]) ⟨0, fun q _ _ _ _ _ => (hpr q).trans (by rw [if_neg (by omega)])⟩ (E.now _)
   ·refine ⟨.inl (k.f0.extract 0 n, false, 0, 0, [⟨s, true, v, c, []⟩, k]), ⟨k.f0.extract 0 n, false, 0, 0, [⟨s, true, v, c, []⟩, k]⟩, E.bind hE (e_neg c1 (e_neg c2 ?_)), rfl, RT.pair hBt hle (.inr ⟨by simp, rfl, rfl, .inr rfl⟩) hlf hk ⟨by show _ < s.size; omega, hsb⟩ ⟨by omega, hbeg⟩ (by rw [hsz]; show bt s _ < bt k.f0 _; omega), by show p < (k.f0.extract 0 n).size; omega, fun i hi => bt_extract k.f0 n i (by omega) n1, by simp [nd, nds]; omega⟩
    rw [hsz]
    exact E.bind (a := [(⟨s, true, v, c, []⟩ : S66), k]) ⟨0, fun q _ _ _ _ _ => (hpr q).trans (by rw [if_pos (by omega)])⟩ (E.now _)
section
variable (t : S66) (s : ByteArray) (v c : Int)
abbrev LR (f : Bool) (acc : List S66) := (f, t.f0, t.f1, t.f2, t.f3, t.f4, s, v, c, ByteArray.empty, false, (0 : Int), (0 : Int), t.f0, t.f1, t.f2, t.f3, acc)
abbrev L8 (f : Bool) (i : Int) (acc : List S66) := fun (k j n : Nat) => f88i.l8 (f88i.r k j) k n f i t.f0 t.f1 t.f2 t.f3 t.f4 s v c ByteArray.empty false 0 0 t.f0 t.f1 t.f2 t.f3 acc
theorem l8_end (f : Bool) (i : Nat) (acc : List S66) (hi : t.f4.length ≤ i) : E (L8 t s v c f (i : Int) acc) (LR t s v c f acc) := by
 apply e_loop
 simp only [f88i.l8, f88i.l8.step, decide_eq_true_eq]
 exact e_neg (by omega) (E.now _)
theorem l8_ne (f : Bool) (i : Nat) (acc : List S66) {r} (hi : i < t.f4.length) (hl : t.f4.length ≤ 2) (ha : acc.length ≤ 2) (h1 : t.f0.size < (r79 t.f4 i).f0.size) (h2 : t.f0.size < s.size) (hne : bt (r79 t.f4 i).f0 (t.f0.size : Int) ≠ bt s (t.f0.size : Int))
  (h : E (L8 t s v c f ((i + 1 : Nat) : Int) (acc ++ [r79 t.f4 i])) r) : E (L8 t s v c f (i : Int) acc) r := by
 have hw : IntKind.i64.wrap ((i : Int) + 1) = ((i + 1 : Nat) : Int) := by rw [w64 (by omega) (by omega)]; omega
 apply e_loop
 simp only [f88i.l8, f88i.l8.step, decide_eq_true_eq, Int.toNat_natCast, hw, fold79, eta66]
 exact e_pos (by omega) (e_pos (by omega) (e_pos (by omega) (e_pos (by omega) (e_pos (by omega) (e_pos (by omega) (e_pos (by omega) (e_pos (tb hne) (e_pos (by simp [maxN]; omega) h))))))))
theorem l8_eq (f : Bool) (i : Nat) (acc : List S66) {r} {x : NT ⊕ NT} {t' : S66} (hi : i < t.f4.length) (hl : t.f4.length ≤ 2) (ha : acc.length ≤ 2) (h1 : t.f0.size < (r79 t.f4 i).f0.size) (h2 : t.f0.size < s.size) (heq : bt (r79 t.f4 i).f0 (t.f0.size : Int) = bt s (t.f0.size : Int))
  (hx : E (fun q j _ => f160i (f88i.r q j) q (r79 t.f4 i).f0 (r79 t.f4 i).f1 (r79 t.f4 i).f2 (r79 t.f4 i).f3 (r79 t.f4 i).f4 s v c) x) (hxt : Sum.elim id id x = ofT t')
  (h : E (L8 t s v c true ((i + 1 : Nat) : Int) (acc ++ [t'])) r) : E (L8 t s v c f (i : Int) acc) r := by
 have hw : IntKind.i64.wrap ((i : Int) + 1) = ((i + 1 : Nat) : Int) := by rw [w64 (by omega) (by omega)]; omega
 apply e_loop
 simp only [f88i.l8, f88i.l8.step, decide_eq_true_eq, Int.toNat_natCast, hw, fold79, eta66]
 refine e_pos (by omega) (e_pos (by omega) (e_pos (by omega) (e_pos (by omega) (e_pos (by omega) (e_pos (by omega) (e_pos (by omega) (e_neg (fb (fun h => h heq)) (E.bind hx ?_))))))))
 cases x with
 | inl y => simp at hxt; subst hxt; refine e_pos (by simp [maxN]; omega) ?_; dsimp only [ofT]; simp only [eta66]; exact h
 | inr y => simp at hxt; subst hxt; refine e_pos (by simp [maxN]; omega) ?_; dsimp only [ofT]; simp only [eta66]; exact h
end
theorem list_one' (l : List S66) (h : l.length = 1) : l = [r79 l 0] := by
 match l, h with
 | [x], _ => rfl
theorem add_run (m N : Nat) : ∀ t : S66, nd t ≤ N → AddP m t := by
 induction N with
 | zero => intro t h; have := nd_eq t; omega
 | succ N ih =>
  intro t hn top s v c ht hr hbeg
  have hnd := nd_eq t
  have hb := ht.hb
  have hl := ht.two
  have hN := ht.nP
  by_cases c0 : t.f0.toList = s.toList
  ·have e0 := toList_inj c0
   refine ⟨.inl (s, true, v, c, t.f4), ⟨s, true, v, c, t.f4⟩, ?_, rfl, .intro hr.b hr.le (.inl ⟨rfl, hr.v0, hr.c0⟩) hl (fun i hi => ?_), e0.symm, by simp [nd]; omega⟩
   ·apply e_rec
    simp only [f88i.r, f88i, f88i.step, decide_eq_true_eq, f159, f159.step, Option.bind_some]
    exact e_pos c0 (E.now _)
   ·obtain ⟨⟨g1, g2⟩, g3⟩ := ht.kid i hi
    refine ⟨⟨?_, ?_⟩, g3⟩
    ·have := (sh_iff _ _).1 g1
     refine (sh_iff _ _).2 ?_
     show s.size < _ ∧ Beg s _
     rw [← e0]; exact this
    ·intro h
     show ¬ bt (r79 t.f4 0).f0 (s.size : Int) ≥ bt (r79 t.f4 i).f0 (s.size : Int)
     rw [← e0]; exact g2 h
  ·have hts : t.f0.size < s.size := by
    rcases Nat.lt_or_ge t.f0.size s.size with h | h
    ·exact h
    ·exfalso; apply c0; rw [hbeg.ext (by have := hbeg.1; omega)]
   have fin1 : ∀ acc : List S66, E (L8 t s v c false 0 []) (LR t s v c true acc) → E (fun k j _ => f88i.r k j t.f0 t.f1 t.f2 t.f3 t.f4 s v c) (.inr (t.f0, t.f1, t.f2, t.f3, acc)) := fun acc h => by
    apply e_rec
    simp only [f88i.r, f88i, f88i.step, decide_eq_true_eq]
    exact e_neg c0 (E.bind (e_use h) (e_neg (by simp) (E.now _)))
   have fin2 : ∀ (acc out : List S66), (∀ q : Nat, f161 q acc s true v c [] (t.f0.size : Int) = some out) → E (L8 t s v c false 0 []) (LR t s v c false acc) → E (fun k j _ => f88i.r k j t.f0 t.f1 t.f2 t.f3 t.f4 s v c) (.inl (t.f0, t.f1, t.f2, t.f3, out)) := fun acc out h2 h => by
    apply e_rec
    simp only [f88i.r, f88i, f88i.step, decide_eq_true_eq, f159, f159.step, Option.bind_some]
    exact e_neg c0 (E.bind (e_use h) (e_pos (by simp) (E.bind (a := out) ⟨0, fun q _ _ _ _ _ => h2 q⟩ (E.now _))))
   have kid : ∀ i, i < t.f4.length → (t.f0.size < (r79 t.f4 i).f0.size ∧ Beg t.f0 (r79 t.f4 i).f0) ∧ RT m false (r79 t.f4 i) := fun i hi => ⟨(sh_iff _ _).1 (ht.kid i hi).1.1, (ht.kid i hi).2⟩
   have spl : ∀ i, i < t.f4.length → bt (r79 t.f4 i).f0 (t.f0.size : Int) = bt s (t.f0.size : Int) → ∃ (x : NT ⊕ NT) (t' : S66), E (fun q j _ => f160i (f88i.r q j) q (r79 t.f4 i).f0 (r79 t.f4 i).f1 (r79 t.f4 i).f2 (r79 t.f4 i).f3 (r79 t.f4 i).f4 s v c) x ∧ Sum.elim id id x = ofT t' ∧ RT m false t' ∧ (t.f0.size < t'.f0.size ∧ Beg t.f0 t'.f0) ∧ bt t'.f0 (t.f0.size : Int) = bt (r79 t.f4 i).f0 (t.f0.size : Int) ∧ nd t' ≤ nd (r79 t.f4 i) + 2 := fun i hi he => by
    obtain ⟨⟨k1, k2⟩, k3⟩ := kid i hi
    obtain ⟨x, t', h1, h2, h3, h4, h5, h6⟩ := split_run (ih (r79 t.f4 i) (by have := nd_kid hi; omega)) k3 hr t.f0.size k1 hts (fun j hj => by
     rcases Nat.lt_or_ge j t.f0.size with h | h
     ·rw [← k2.2 j h, hbeg.2 j h]
     ·have : j = t.f0.size := by omega
      subst this; exact he)
    exact ⟨x, t', h1, h2, h3, ⟨h4, by omega, fun j hj => by rw [h5 j (by omega), k2.2 j hj]⟩, h5 _ (Nat.le_refl _), h6⟩
   have lf := RT.leaf hr false
   have lfs : t.f0.size < (⟨s, true, v, c, []⟩ : S66).f0.size ∧ Beg t.f0 (⟨s, true, v, c, []⟩ : S66).f0 := ⟨hts, hbeg⟩
   rcases (show t.f4.length = 0 ∨ t.f4.length = 1 ∨ t.f4.length = 2 by omega) with hl0 | hl1 | hl2
   ·have hz : t.f4 = [] := List.length_eq_zero_iff.1 hl0
    refine ⟨_, ⟨t.f0, t.f1, t.f2, t.f3, [⟨s, true, v, c, []⟩]⟩, fin2 [] _ (fun q => pair_none s true v c [] _ q) (l8_end t s v c false 0 [] (by omega)), rfl, RT.one hb ht.le ?_ lf lfs, rfl, by simp [nd, nds, hz, hnd]⟩
    rcases hN with h | ⟨h1, h2, h3, h4⟩
    ·exact .inl h
    ·exact .inr ⟨h1, h2, h3, .inl (h4.resolve_right (by omega))⟩
   ·obtain ⟨⟨k1, k2⟩, k3⟩ := kid 0 (by omega)
    have hk := list_one' t.f4 hl1
    have hnds := nds_one t hl1
    by_cases he : bt (r79 t.f4 0).f0 (t.f0.size : Int) = bt s (t.f0.size : Int)
    ·obtain ⟨x, t', h1, h2, h3, h4, h5, h6⟩ := spl 0 (by omega) he
     refine ⟨_, ⟨t.f0, t.f1, t.f2, t.f3, [t']⟩, fin1 [t'] (l8_eq t s v c false 0 [] (by omega) hl (by simp) k1 hts he h1 h2 (l8_end t s v c true 1 [t'] (by omega))), rfl, RT.one hb ht.le ?_ h3 h4, rfl, by simp [nd, nds]; omega⟩
     rcases hN with h | ⟨g1, g2, g3, g4⟩
     ·exact .inl h
     ·exact .inr ⟨g1, g2, g3, .inl (g4.resolve_right (by omega))⟩
    ·have hlp := l8_ne t s v c false 0 [] (by omega) hl (by simp) k1 hts he (l8_end t s v c false 1 [r79 t.f4 0] (by omega))
     have hpr := pair_run (r79 t.f4 0) s true v c [] t.f0.size k1 hts
     have hN' : ∀ x y : S66, nodeP ⟨t.f0, t.f1, t.f2, t.f3, [x, y]⟩ top := fun x y => by
      rcases hN with h | ⟨g1, g2, g3, g4⟩
      ·exact .inl h
      ·exact .inr ⟨g1, g2, g3, .inr rfl⟩
     rcases bits_ne k3.hb hr.b t.f0.size k1 hts he with ⟨d1, d2⟩ | ⟨d1, d2⟩
     ·exact ⟨_, ⟨t.f0, t.f1, t.f2, t.f3, [r79 t.f4 0, ⟨s, true, v, c, []⟩]⟩, fin2 _ _ (fun q => by rw [hpr q, if_neg (by omega)]) hlp, rfl, RT.pair hb ht.le (hN' _ _) k3 lf ⟨k1, k2⟩ lfs (by show bt _ _ < bt s _; omega), rfl, by simp [nd, nds]; omega⟩
     ·exact ⟨_, ⟨t.f0, t.f1, t.f2, t.f3, [⟨s, true, v, c, []⟩, r79 t.f4 0]⟩, fin2 _ _ (fun q => by rw [hpr q, if_pos (by omega)]) hlp, rfl, RT.pair hb ht.le (hN' _ _) lf k3 lfs ⟨k1, k2⟩ (by show bt s _ < bt _ _; omega), rfl, by simp [nd, nds]; omega⟩
   ·obtain ⟨⟨k1, k2⟩, k3⟩ := kid 0 (by omega)
    obtain ⟨⟨q1, q2⟩, q3⟩ := kid 1 (by omega)
    have hnds := nds_two t hl2
    have ho : bt (r79 t.f4 0).f0 (t.f0.size : Int) < bt (r79 t.f4 1).f0 (t.f0.size : Int) := by have := (ht.kid 1 (by omega)).1.2 rfl; omega
    have hN' : ∀ x y : S66, nodeP ⟨t.f0, t.f1, t.f2, t.f3, [x, y]⟩ top := fun x y => by
     rcases hN with h | ⟨g1, g2, g3, g4⟩
     ·exact .inl h
     ·exact .inr ⟨g1, g2, g3, .inr rfl⟩
    have b0 := k3.hb.2 t.f0.size k1
    have b1 := q3.hb.2 t.f0.size q1
    have b2 := hr.b.2 t.f0.size hts
    rcases b2 with b2 | b2
    ·have he : bt (r79 t.f4 0).f0 (t.f0.size : Int) = bt s (t.f0.size : Int) := by omega
     obtain ⟨x, t', h1, h2, h3, h4, h5, h6⟩ := spl 0 (by omega) he
     refine ⟨_, ⟨t.f0, t.f1, t.f2, t.f3, [t', r79 t.f4 1]⟩, fin1 [t', r79 t.f4 1] (l8_eq t s v c false 0 [] (by omega) hl (by simp) k1 hts he h1 h2 (l8_ne t s v c true 1 [t'] (by omega) hl (by simp) q1 hts (by omega) (l8_end t s v c true 2 [t', r79 t.f4 1] (by omega)))), rfl, RT.pair hb ht.le (hN' _ _) h3 q3 h4 ⟨q1, q2⟩ (by omega), rfl, by simp [nd, nds]; omega⟩
    ·have he : bt (r79 t.f4 1).f0 (t.f0.size : Int) = bt s (t.f0.size : Int) := by omega
     obtain ⟨x, t', h1, h2, h3, h4, h5, h6⟩ := spl 1 (by omega) he
     refine ⟨_, ⟨t.f0, t.f1, t.f2, t.f3, [r79 t.f4 0, t']⟩, fin1 [r79 t.f4 0, t'] (l8_ne t s v c false 0 [] (by omega) hl (by simp) k1 hts (by omega) (l8_eq t s v c false 1 [r79 t.f4 0] (by omega) hl (by simp) q1 hts he h1 h2 (l8_end t s v c true 2 [r79 t.f4 0, t'] (by omega)))), rfl, RT.pair hb ht.le (hN' _ _) k3 h3 ⟨k1, k2⟩ h4 (by omega), rfl, by simp [nd, nds]; omega⟩
theorem next_k (k : Nat) (xs : List Int) (a s N : Int) : f139 k xs a s N = f139 0 xs a s N := by simp only [f139, f139.step, f185, f185.step]
theorem next_e {xs : List Int} {a s : Int} {n : Nat} (g : GS xs a s n) (hn : n ≤ 90000) {N : Int} (h1 : 1 ≤ N) (h2 : N ≤ 65536) : ∃ v a' s', (∀ k, f139 k xs a s N = some (v, xs, a', s')) ∧ (0 ≤ v ∧ v < N) ∧ GS xs a' s' (n + 3) := by
 obtain ⟨v, a', s', e, h, g'⟩ := next_ok 0 g hn h1 h2
 exact ⟨v, a', s', fun k => by rw [next_k, e], h, g'⟩
theorem addr4_e {xs : List Int} {a s : Int} {n : Nat} (g : GS xs a s n) (hn : n ≤ 70000) : ∃ t a' s', (∀ k, f167 k xs a s = some (t, xs, a', s')) ∧ GS xs a' s' (n + 9) ∧ t.size = 4 := by
 obtain ⟨v1, a1, s1, e1, _, g1⟩ := next_e g (by omega) (N := 3) (by omega) (by omega)
 obtain ⟨v2, a2, s2, e2, _, g2⟩ := next_e g1 (by omega) (N := 2) (by omega) (by omega)
 obtain ⟨v3, a3, s3, e3, _, g3⟩ := next_e g2 (by omega) (N := 4) (by omega) (by omega)
 exact ⟨strOf [10, IntKind.u8.wrap v1, IntKind.u8.wrap (IntKind.i64.wrap (v2 * 128)), IntKind.u8.wrap v3], a3, s3, fun k => by simp only [f167, f167.step, e1 k, Option.bind_some, e2 k, e3 k], g3, rfl⟩
theorem addr6_e {xs : List Int} {a s : Int} {n : Nat} (g : GS xs a s n) (hn : n ≤ 70000) : ∃ t a' s', E (fun k _ _ => f168 k xs a s) (t, xs, a', s') ∧ GS xs a' s' (n + 24) ∧ t.size = 16 := by
 have loop : ∀ (d n : Nat) (i : Int) (a s : Int) (out : List Int), i ≤ d → 0 ≤ i → GS xs a s n → n + 6 * d ≤ 80000 → out.length = 16 → ∃ a' s' out', E (fun k _ j => f168.l5 k j i xs a s out) (xs, a', s', out') ∧ GS xs a' s' (n + 6 * d) ∧ out'.length = 16 := by
  intro d
  induction d with
  | zero =>
   intro n i a s out hi h0 g hn ho
   refine ⟨a, s, out, ?_, g, ho⟩
   apply e_loop
   simp only [f168.l5, f168.l5.step, decide_eq_true_eq]
   exact e_neg (by omega) (E.now _)
  | succ d ih =>
   intro n i a s out hi h0 g hn ho
   by_cases hp : i > 0
   ·obtain ⟨v1, a1, s1, e1, hv1, g1⟩ := next_e g (by omega) (N := 16) (by omega) (by omega)
    obtain ⟨v2, a2, s2, e2, hv2, g2⟩ := next_e g1 (by omega) (N := 256) (by omega) (by omega)
    have hw : IntKind.i64.wrap (i - 1) = i - 1 := w64 (by omega) (by omega)
    obtain ⟨a3, s3, o3, h1, h2, h3⟩ := ih (n + 3 + 3) (i - 1) a2 s2 (out.set v1.toNat (IntKind.u8.wrap v2)) (by omega) (by omega) g2 (by omega) (by simpa using ho)
    refine ⟨a3, s3, o3, ?_, h2.to (by omega), h3⟩
    apply e_loop
    simp only [f168.l5, f168.l5.step, decide_eq_true_eq, e1, e2, Option.bind_some, hw]
    exact e_pos hp (e_pos hv1.1 (e_pos (by rw [ho]; omega) h1))
   ·refine ⟨a, s, out, ?_, g.to (by omega), ho⟩
    apply e_loop
    simp only [f168.l5, f168.l5.step, decide_eq_true_eq]
    exact e_neg hp (E.now _)
 obtain ⟨v1, a1, s1, e1, _, g1⟩ := next_e g (by omega) (N := 2) (by omega) (by omega)
 obtain ⟨v2, a2, s2, e2, hv2, g2⟩ := next_e g1 (by omega) (N := 4) (by omega) (by omega)
 obtain ⟨a3, s3, o3, h1, h2, h3⟩ := loop 3 (n + 3 + 3) v2 a2 s2 (((List.replicate 16 (0 : Int)).set 0 32).set 1 (IntKind.u8.wrap v1)) (by omega) (by omega) g2 (by omega) (by simp)
 refine ⟨strOf o3, a3, s3, ?_, h2.to (by omega), by rw [strOf_size, h3]⟩
 simp only [f168, f168.step, e1, e2, Option.bind_some]
 exact e_pos (by rw [List.length_replicate]; omega) (e_pos (by rw [List.length_set, List.length_replicate]; omega) (E.bind (e_use h1) (E.now _)))
theorem and1 (x : Int) : bitsV .and .u8 x 1 = 0 ∨ bitsV .and .u8 x 1 = 1 := by
 have h : ((BitVec.ofInt IntKind.u8.bits x) &&& (BitVec.ofInt IntKind.u8.bits 1)).toNat < 2 := by
  have : (BitVec.ofInt IntKind.u8.bits 1).toNat = 1 := by decide
  rw [BitVec.toNat_and, this]
  exact Nat.lt_of_le_of_lt Nat.and_le_right (by omega)
 simp only [bitsV]
 generalize ((BitVec.ofInt IntKind.u8.bits x) &&& (BitVec.ofInt IntKind.u8.bits 1)).toNat = q at h
 rcases (show q = 0 ∨ q = 1 by omega) with rfl | rfl
 ·left; rw [IntKind.wrap_u8]; rfl
 ·right; rw [IntKind.wrap_u8]; rfl
def B01 (xs : List Int) : Prop := ∀ x ∈ xs, x = 48 ∨ x = 49
theorem B01.snoc {xs : List Int} (h : B01 xs) {x : Int} (hx : x = 48 ∨ x = 49) : B01 (xs ++ [x]) := fun y hy => by
 rcases List.mem_append.1 hy with hy | hy
 ·exact h y hy
 ·simp at hy; subst hy; exact hx
theorem bt_strOf (xs : List Int) (hb : Bytes xs) (i : Nat) (hi : i < xs.length) : bt (strOf xs) (i : Int) = xs.getD i 0 := by
 have h1 := bytesOf_strOf hb
 have hs : i < (strOf xs).size := by rw [strOf_size]; exact hi
 simp only [bt, Int.toNat_natCast]
 rw [dif_pos hs]
 have h2 : (bytesOf (strOf xs)).getD i 0 = xs.getD i 0 := by rw [h1]
 rw [← h2]
 have h3 : i < (strOf xs).data.toList.length := by
  rw [Array.length_toList]; exact hs
 simp only [bytesOf, List.getD_eq_getElem?_getD, List.getElem?_map, List.getElem?_eq_getElem h3, Option.map_some, Option.getD_some]
 rfl
theorem bt_of01 {xs : List Int} (h : B01 xs) (hl : xs.length ≤ 128) : Bt (strOf xs) := by
 refine ⟨by rw [strOf_size]; exact hl, fun i hi => ?_⟩
 rw [strOf_size] at hi
 rw [bt_strOf xs (fun x hx => by rcases h x hx with rfl | rfl <;> omega) i hi]
 rw [List.getD_eq_getElem?_getD, List.getElem?_eq_getElem hi]
 exact h _ (List.getElem_mem hi)
theorem addrBits_e (a : ByteArray) (ha : a.size ≤ 16) : ∃ t, E (fun k _ _ => f123 k a) t ∧ Bt t ∧ t.size = 8 * a.size := by
 have inner : ∀ (d i : Nat) (xs : List Int), i < a.size → d ≤ 8 → B01 xs → xs.length + d ≤ 1000 → ∃ ys, E (fun k _ j => f123.l6 k j a (i : Int) ((d : Int) - 1) xs) (a, (i : Int), ys) ∧ B01 ys ∧ ys.length = xs.length + d := by
  intro d
  induction d with
  | zero =>
   intro i xs hi hd hb hl
   refine ⟨xs, ?_, hb, by omega⟩
   apply e_loop
   simp only [f123.l6, f123.l6.step, decide_eq_true_eq]
   exact e_neg (by omega) (E.now _)
  | succ d ih =>
   intro i xs hi hd hb hl
   have e0 : ((d + 1 : Nat) : Int) - 1 = (d : Int) := by omega
   have hw : IntKind.i64.wrap ((d : Int) - 1) = (d : Int) - 1 := w64 (by omega) (by omega)
   have hu : IntKind.u64.wrap (d : Int) = (d : Int) := by simp only [IntKind.wrap, IntKind.bits, IntKind.signed]; simp; omega
   rw [e0]
   have hx : ∀ z : Int, IntKind.u8.wrap (48 + bitsV .and .u8 z 1) = 48 ∨ IntKind.u8.wrap (48 + bitsV .and .u8 z 1) = 49 := fun z => by
    rcases and1 z with h | h <;> rw [h, IntKind.wrap_u8] <;> simp
   obtain ⟨ys, h1, h2, h3⟩ := ih i (xs ++ [IntKind.u8.wrap (48 + bitsV .and .u8 (Int.fdiv (bt a i) (2 ^ (min (Int.toNat (IntKind.u64.wrap (d : Int))) IntKind.u8.bits))) 1)]) hi (by omega) (hb.snoc (hx _)) (by simp; omega)
   refine ⟨ys, ?_, h2, by rw [h3]; simp; omega⟩
   apply e_loop
   simp only [f123.l6, f123.l6.step, decide_eq_true_eq, hw]
   exact e_pos (by omega) (e_pos (by omega) (e_pos (by omega) (e_pos (by rw [hu]; omega) (e_pos (by simp [maxN]; omega) h1))))
 have outer : ∀ (d i : Nat) (xs : List Int), i + d = a.size → B01 xs → xs.length = 8 * i → ∃ ys, E (fun k _ j => f123.l3 k j a (i : Int) xs) ys ∧ B01 ys ∧ ys.length = 8 * a.size := by
  intro d
  induction d with
  | zero =>
   intro i xs hi hb hl
   refine ⟨xs, ?_, hb, by omega⟩
   apply e_loop
   simp only [f123.l3, f123.l3.step, decide_eq_true_eq]
   exact e_neg (by omega) (E.now _)
  | succ d ih =>
   intro i xs hi hb hl
   have hw : IntKind.i64.wrap ((i : Int) + 1) = ((i + 1 : Nat) : Int) := by rw [w64 (by omega) (by omega)]; omega
   obtain ⟨ys, h1, h2, h3⟩ := inner 8 i xs (by omega) (by omega) hb (by omega)
   obtain ⟨zs, h4, h5, h6⟩ := ih (i + 1) ys (by omega) h2 (by omega)
   refine ⟨zs, ?_, h5, h6⟩
   apply e_loop
   simp only [f123.l3, f123.l3.step, decide_eq_true_eq]
   refine e_pos (by omega) (E.bind (e_use h1) ?_)
   rw [hw]
   exact h4
 obtain ⟨ys, h1, h2, h3⟩ := outer a.size 0 [] (by omega) (fun x hx => by simp at hx) rfl
 refine ⟨strOf ys, ?_, bt_of01 h2 (by omega), by rw [strOf_size, h3]⟩
 simp only [f123, f123.step]
 exact E.bind (e_use h1) (E.now _)
def OWN : List ByteArray := [(⟨#[10, 0, 0, 1]⟩ : ByteArray), ((⟨#[32, 1]⟩ : ByteArray) ++ (strOf (List.replicate 13 (0 : Int)))) ++ (⟨#[1]⟩ : ByteArray)]
structure DT (m q : Nat) (t : S66) : Prop where
 r : RT m true t
 z : t.f0.size = 0
 n : nd t ≤ q
theorem DT.to {m q q' : Nat} {t : S66} (h : DT m q t) (hq : q ≤ q') : DT m q' t := ⟨h.r, h.z, Nat.le_trans h.n hq⟩
theorem put_trie {m q : Nat} {t : S66} (h : DT m q t) {b : ByteArray} (hb : Bt b) {n : Int} (h0 : 0 ≤ n) (h1 : n ≤ b.size) (h2 : n ≤ m) {v c : Int} (hv : 0 ≤ v ∧ v ≤ 99) (hc : 0 ≤ c ∧ c ≤ 16) :
  ∃ (x : NT ⊕ NT) (t' : S66), E (fun k _ _ => f88 k t.f0 t.f1 t.f2 t.f3 t.f4 (b.extract 0 n.toNat) v c) x ∧ Sum.elim id id x = ofT t' ∧ DT m (q + 2) t' := by
 have hs : (b.extract 0 n.toNat).size = n.toNat := by simp [ByteArray.size_extract]; omega
 obtain ⟨x, t', e, h3, h4, h5, h6⟩ := add_run m (nd t) t (Nat.le_refl _) true (b.extract 0 n.toNat) v c h.r ⟨hb.extract _ (by omega), by omega, hv, hc⟩ ⟨by have := h.z; omega, fun i hi => by have := h.z; omega⟩
 exact ⟨x, t', by simp only [f88]; exact e_fn e, h3, h4, by rw [h5]; exact h.z, by have := h.n; omega⟩
theorem gd_range (L : List Int) (lo hi : Int) (hL : ∀ x ∈ L, lo ≤ x ∧ x ≤ hi) (hz : lo ≤ 0 ∧ 0 ≤ hi) (i : Nat) : lo ≤ L.getD i 0 ∧ L.getD i 0 ≤ hi := by
 rw [List.getD_eq_getElem?_getD]
 rcases Nat.lt_or_ge i L.length with h | h
 ·rw [List.getElem?_eq_getElem h]; exact hL _ (List.getElem_mem h)
 ·rw [List.getElem?_eq_none h]; exact hz
theorem node_loop {xs : List Int} (n30 n31 : Nat) (own : List ByteArray) (mt : List Int) : ∀ (d n q : Nat) (i a s : Int) (t1 t2 : S66), i ≤ d → 0 ≤ i → GS xs a s n → n + 100 * d ≤ 60000 → DT 32 q t1 → DT 128 q t2 → q + 2 * d ≤ 50 →
  ∃ a' s' t1' t2', E (fun k _ j => f100.l3 k j i xs a s ByteArray.empty false 0 0 ByteArray.empty false 0 0 own mt t1.f0 t1.f1 t1.f2 t1.f3 t1.f4 t2.f0 t2.f1 t2.f2 t2.f3 t2.f4 n30 n31)
   (xs, a', s', ByteArray.empty, false, 0, 0, ByteArray.empty, false, 0, 0, own, mt, t1'.f0, t1'.f1, t1'.f2, t1'.f3, t1'.f4, t2'.f0, t2'.f1, t2'.f2, t2'.f3, t2'.f4, n30, n31) ∧ DT 32 50 t1' ∧ DT 128 50 t2' := by
 intro d
 induction d with
 | zero =>
  intro n q i a s t1 t2 hi h0 g hn h1 h2 hq
  refine ⟨a, s, t1, t2, ?_, h1.to (by omega), h2.to (by omega)⟩
  apply e_loop
  simp only [f100.l3, f100.l3.step, decide_eq_true_eq]
  exact e_neg (by omega) (E.now _)
 | succ d ih =>
  intro n q i a s t1 t2 hi h0 g hn h1 h2 hq
  by_cases hp : i > 0
  ·obtain ⟨u1, a1, s1, e1, g1, z1⟩ := addr4_e g (by omega)
   obtain ⟨b1, eb1, hb1, zb1⟩ := addrBits_e u1 (by omega)
   obtain ⟨v2, a2, s2, e2, hv2, g2⟩ := next_e g1 (by omega) (N := 6) (by omega) (by omega)
   obtain ⟨v3, a3, s3, e3, hv3, g3⟩ := next_e g2 (by omega) (N := 4) (by omega) (by omega)
   obtain ⟨v4, a4, s4, e4, hv4, g4⟩ := next_e g3 (by omega) (N := 4) (by omega) (by omega)
   obtain ⟨u5, a5, s5, e5, g5, z5⟩ := addr6_e g4 (by omega)
   obtain ⟨b5, eb5, hb5, zb5⟩ := addrBits_e u5 (by omega)
   obtain ⟨v6, a6, s6, e6, hv6, g6⟩ := next_e g5 (by omega) (N := 5) (by omega) (by omega)
   obtain ⟨v7, a7, s7, e7, hv7, g7⟩ := next_e g6 (by omega) (N := 4) (by omega) (by omega)
   have r1 := gd_range [0, 8, 16, 24, 25, 32] 0 32 (by intro x hx; simp at hx; omega) (by omega) v2.toNat
   have r2 := gd_range [1, 1, 3, 16] 0 16 (by intro x hx; simp at hx; omega) (by omega) v4.toNat
   have r3 := gd_range [0, 8, 16, 64, 128] 0 128 (by intro x hx; simp at hx; omega) (by omega) v6.toNat
   obtain ⟨x1, t1', ex1, hx1, hd1⟩ := put_trie h1 hb1 r1.1 (by omega) (by omega) (v := v3) (by omega) r2
   obtain ⟨x2, t2', ex2, hx2, hd2⟩ := put_trie h2 hb5 r3.1 (by omega) (by omega) (v := v7) (c := 1) (by omega) (by omega)
   have hw : IntKind.i64.wrap (i - 1) = i - 1 := w64 (by omega) (by omega)
   obtain ⟨a', s', y1, y2, hE, hy1, hy2⟩ := ih (n + 100) (q + 2) (i - 1) a7 s7 t1' t2' (by omega) (by omega) (g7.to (by omega)) (by omega) hd1 hd2 (by omega)
   refine ⟨a', s', y1, y2, ?_, hy1, hy2⟩
   apply e_loop
   simp only [f100.l3, f100.l3.step, decide_eq_true_eq, e1, e2, e3, e4, e6, e7, Option.bind_some, hw]
   refine e_pos hp (E.bind eb1 (e_pos hv2.1 (e_pos (by simp; omega) (e_pos r1.1 (e_pos (by omega) (e_pos hv4.1 (e_pos (by simp; omega) (E.bind ex1 ?_))))))))
   cases x1 <;>
   ·simp at hx1
    subst hx1
    refine E.bind e5 (E.bind eb5 ?_)
    simp only [e6, e7, Option.bind_some]
    refine e_pos hv6.1 (e_pos (by simp; omega) (e_pos r3.1 (e_pos (by omega) (E.bind ex2 ?_))))
    cases x2 <;>
    ·simp at hx2
     subst hx2
     exact hE
  ·refine ⟨a, s, t1, t2, ?_, h1.to (by omega), h2.to (by omega)⟩
   apply e_loop
   simp only [f100.l3, f100.l3.step, decide_eq_true_eq]
   exact e_neg hp (E.now _)
theorem own_size : ((⟨#[32, 1]⟩ : ByteArray) ++ (strOf (List.replicate 13 (0 : Int)))).size = 15 ∧ (((⟨#[32, 1]⟩ : ByteArray) ++ (strOf (List.replicate 13 (0 : Int)))) ++ (⟨#[1]⟩ : ByteArray)).size = 16 := by
 constructor <;> simp [ByteArray.size_append, strOf_size] <;> rfl
theorem node_e (xs : List Int) (hb : Bytes xs) (hl : xs.length ≤ 1048576) : ∃ (t1 t2 : S66) (q : Nat), E (fun k _ _ => f39 k xs) (t1.f0, t1.f1, t1.f2, t1.f3, t1.f4, t2.f0, t2.f1, t2.f2, t2.f3, t2.f4, OWN, List.take q [1500, 576, 1280]) ∧ DT 32 50 t1 ∧ DT 128 50 t2 ∧ 1 ≤ q ∧ q ≤ 3 := by
 have g : GS xs 0 (Int.tmod (xs.length : Int) 1000) 0 := by
  rw [Int.tmod_eq_emod_of_nonneg (by omega)]
  exact ⟨hl, hb, by omega, by omega, by omega, by omega⟩
 obtain ⟨v1, a1, s1, e1, hv1, g1⟩ := next_e g (by omega) (N := 3) (by omega) (by omega)
 obtain ⟨v2, a2, s2, e2, hv2, g2⟩ := next_e g1 (by omega) (N := 6) (by omega) (by omega)
 have hw : IntKind.i64.wrap (1 + v1) = 1 + v1 := w64 (by omega) (by omega)
 have hz : ∀ m, DT m 1 ⟨ByteArray.empty, false, 0, 0, []⟩ := fun m => ⟨RT.empty m, by simp, by simp [nd, nds]⟩
 obtain ⟨a', s', t1, t2, hE, h1, h2⟩ := node_loop (xs := xs) 0 ((1 + v1).toNat - 0) OWN [1500, 576, 1280] 6 6 1 v2 a2 s2 _ _ (by omega) (by omega) (g2.to (by omega)) (by omega) (hz 32) (hz 128) (by omega)
 refine ⟨t1, t2, (1 + v1).toNat, ?_, h1, h2, by omega, by omega⟩
 have o1 := own_trie (nd t1) t1 (Nat.le_refl _) (by have := h1.n; omega)
 have o2 := own_trie (nd t2) t2 (Nat.le_refl _) (by have := h2.n; omega)
 have hs := own_size
 simp only [f39, f39.step, f54, f54.step, Option.bind_some, f100, f100.step, e1, e2, hw, f90]
 refine E.bind (a := (t1.f0, t1.f1, t1.f2, t1.f3, t1.f4, t2.f0, t2.f1, t2.f2, t2.f3, t2.f4, OWN, List.take (1 + v1).toNat [1500, 576, 1280], xs, a', s')) ?_ (E.now _)
 refine e_pos (by rw [strOf_size]; simp [maxN]; decide) (e_pos (by rw [hs.1]; simp [maxN]; decide) (e_pos (by omega) (e_pos (by simp; omega) (E.bind (e_use hE) (E.bind (e_fn o1) (E.bind (e_fn o2) (e_pos rfl (e_fin ?_))))))))
 simp
section
variable (own : List ByteArray) (ho : own.length = 2) (h0 : (own.getD 0 ByteArray.empty).size = 4) (h1 : (own.getD 1 ByteArray.empty).size = 16)
theorem w01 : IntKind.i64.wrap ((0 : Int) + 1) = 1 := by rw [w64] <;> omega
theorem w12 : IntKind.i64.wrap ((1 : Int) + 1) = 2 := by rw [w64] <;> omega
include ho h0 h1
theorem impl_own : E (fun k _ j => f50.l13 k j false own 2 0) (.inr true) := by
 have e0 : ∀ k, f122 k (own.getD (Int.toNat 0) ByteArray.empty) = some true := fun k => by
  have : (own.getD (Int.toNat 0) ByteArray.empty).size = 4 := h0
  simp only [f122, f122.step, this]; rfl
 have e1 : ∀ k, f122 k (own.getD (Int.toNat 1) ByteArray.empty) = some true := fun k => by
  have : (own.getD (Int.toNat 1) ByteArray.empty).size = 16 := h1
  simp only [f122, f122.step, this]; rfl
 have d0 : decide ((((own.getD (Int.toNat 0) ByteArray.empty).size : Nat) : Int) = 16) = false := by
  have : (own.getD (Int.toNat 0) ByteArray.empty).size = 4 := h0
  rw [this]; rfl
 have d1 : decide ((((own.getD (Int.toNat 1) ByteArray.empty).size : Nat) : Int) = 16) = true := by
  have : (own.getD (Int.toNat 1) ByteArray.empty).size = 16 := h1
  rw [this]; rfl
 apply e_loop
 simp only [f50.l13, f50.l13.step, ho, e0, d0, w01, Option.bind_some]
 refine e_pos (by first | rfl | trivial) (e_pos (by omega) (e_pos (by omega) (e_neg (by simp) (e_pos (by first | rfl | trivial) ?_))))
 apply e_loop
 simp only [f50.l13, f50.l13.step, ho, e1, d1, w12, Option.bind_some]
 refine e_pos (by first | rfl | trivial) (e_pos (by omega) (e_pos (by omega) (e_neg (by simp) (e_pos (by first | rfl | trivial) ?_))))
 apply e_loop
 simp only [f50.l13, f50.l13.step]
 exact e_neg (by simp) (E.now _)
theorem spec_own (s1 s2 : ByteArray) (b1 b2 : Bool) (a1 a2 a3 a4 : Int) (x1 x2 : List S66) (mt : List Int) : E (fun k _ j => f110.l10 k j false 0 s1 b1 a1 a2 x1 s2 b2 a3 a4 x2 own mt) (.inr true) := by
 have z0 : (own.getD (Int.toNat 0) ByteArray.empty).size = 4 := h0
 have z1 : (own.getD (Int.toNat 1) ByteArray.empty).size = 16 := h1
 apply e_loop
 simp only [f110.l10, f110.l10.step, ho, z0, w01]
 refine e_pos (by first | rfl | trivial) (e_pos (by omega) (e_pos (by omega) (e_neg (by simp) (e_pos (by first | rfl | trivial) (e_pos (by omega) (e_pos (by omega) ?_))))))
 apply e_loop
 simp only [f110.l10, f110.l10.step, ho, z1, w12]
 refine e_pos (by first | rfl | trivial) (e_pos (by omega) (e_pos (by omega) (e_pos (by simp) (e_pos (by omega) (e_pos (by omega) (e_neg (by simp) (e_pos (by first | rfl | trivial) (e_pos (by omega) (e_pos (by omega) ?_)))))))))
 apply e_loop
 simp only [f110.l10, f110.l10.step, ho]
 exact e_neg (by simp) (E.now _)
end
section
variable (s1 s2 : ByteArray) (b1 b2 : Bool) (a1 a2 a3 a4 : Int) (x1 x2 : List S66) (own : List ByteArray)
theorem impl_mtu (mt : List Int) (hm : ∀ x ∈ mt, 576 ≤ x ∧ x ≤ 1520) (hl : mt.length ≤ 6) : ∀ (d i : Nat), i + d = mt.length → E (fun k _ j => f50.l6 k j mt mt.length (i : Int) s1 b1 a1 a2 x1 s2 b2 a3 a4 x2 own mt) (.inr (s1, b1, a1, a2, x1, s2, b2, a3, a4, x2, own, mt)) := by
 intro d
 induction d with
 | zero =>
  intro i hi
  apply e_loop
  simp only [f50.l6, f50.l6.step, decide_eq_true_eq]
  exact e_neg (by omega) (E.now _)
 | succ d ih =>
  intro i hi
  have hw : IntKind.i64.wrap ((i : Int) + 1) = ((i + 1 : Nat) : Int) := by rw [w64 (by omega) (by omega)]; omega
  have hx := hm mt[i] (List.getElem_mem (by omega))
  have hg : mt.getD i 0 = mt[i] := by simp [List.getD_eq_getElem?_getD, List.getElem?_eq_getElem (show i < mt.length by omega)]
  apply e_loop
  simp only [f50.l6, f50.l6.step, decide_eq_true_eq, Int.toNat_natCast, impl_in, Option.bind_some, hw, hg]
  exact e_pos (by omega) (e_pos (by omega) (e_pos (by omega) (e_neg (by simpa using hx) (ih (i + 1) (by omega)))))
theorem spec_mtu (mt : List Int) (hm : ∀ x ∈ mt, 576 ≤ x ∧ x ≤ 1520) (hl : mt.length ≤ 6) : ∀ (d i : Nat), i + d = mt.length → E (fun k _ j => f110.l4 k j (i : Int) s1 b1 a1 a2 x1 s2 b2 a3 a4 x2 own mt) (.inr (s1, b1, a1, a2, x1, s2, b2, a3, a4, x2, own, mt)) := by
 intro d
 induction d with
 | zero =>
  intro i hi
  apply e_loop
  simp only [f110.l4, f110.l4.step, decide_eq_true_eq]
  exact e_neg (by omega) (E.now _)
 | succ d ih =>
  intro i hi
  have hw : IntKind.i64.wrap ((i : Int) + 1) = ((i + 1 : Nat) : Int) := by rw [w64 (by omega) (by omega)]; omega
  have hx := hm mt[i] (List.getElem_mem (by omega))
  have hg : mt.getD i 0 = mt[i] := by simp [List.getD_eq_getElem?_getD, List.getElem?_eq_getElem (show i < mt.length by omega)]
  apply e_loop
  simp only [f110.l4, f110.l4.step, decide_eq_true_eq, Int.toNat_natCast, spec_in, Option.bind_some, hw, hg]
  exact e_pos (by omega) (e_pos (by omega) (e_pos (by omega) (e_neg (by simpa using hx) (ih (i + 1) (by omega)))))
end
structure ND (t1 t2 : S66) (own : List ByteArray) (mt : List Int) : Prop where
 t1 : DT 32 50 t1
 t2 : DT 128 50 t2
 ol : own.length = 2
 o0 : (own.getD 0 ByteArray.empty).size = 4
 o1 : (own.getD 1 ByteArray.empty).size = 16
 m1 : 1 ≤ mt.length
 m6 : mt.length ≤ 6
 mt : ∀ x ∈ mt, 576 ≤ x ∧ x ≤ 1520
theorem ND.ok {t1 t2 : S66} {own : List ByteArray} {mt : List Int} (h : ND t1 t2 own mt) :
  E (fun k _ _ => f50 k t1.f0 t1.f1 t1.f2 t1.f3 t1.f4 t2.f0 t2.f1 t2.f2 t2.f3 t2.f4 own mt) true ∧ E (fun k _ _ => f110 k t1.f0 t1.f1 t1.f2 t1.f3 t1.f4 t2.f0 t2.f1 t2.f2 t2.f3 t2.f4 own mt) true := by
 obtain ⟨B, HB⟩ := bits_fun
 obtain ⟨p1, q1⟩ := h.t1.r.ok B HB h.t1.z (by have := h.t1.n; omega)
 obtain ⟨p2, q2⟩ := h.t2.r.ok B HB h.t2.z (by have := h.t2.n; omega)
 obtain ⟨v, hv, hv2⟩ := h.t1.r.longest
 have hb := h.t1.r.bits
 have i1 := impl_mtu t1.f0 t2.f0 t1.f1 t2.f1 t1.f2 t1.f3 t2.f2 t2.f3 t1.f4 t2.f4 own mt h.mt h.m6 mt.length 0 (by omega)
 have i2 := spec_mtu t1.f0 t2.f0 t1.f1 t2.f1 t1.f2 t1.f3 t2.f2 t2.f3 t1.f4 t2.f4 own mt h.mt h.m6 mt.length 0 (by omega)
 have i3 := impl_own own h.ol h.o0 h.o1
 have i4 := spec_own own h.ol h.o0 h.o1 t1.f0 t2.f0 t1.f1 t2.f1 t1.f2 t1.f3 t2.f2 t2.f3 t1.f4 t2.f4 mt
 have m1 := h.m1
 have m6 := h.m6
 have z0 : ((own.getD (Int.toNat 0) ByteArray.empty).size : Int) = 4 := by have := h.o0; show (((own.getD 0 ByteArray.empty).size : Nat) : Int) = 4; omega
 constructor
 ·simp only [f50, f50.step, impl_in, Option.bind_some, f121, h.ol, decide_eq_true_eq]
  refine E.bind q1 (e_pos rfl (E.bind q2 (e_pos rfl (E.bind (e_fn hv) (e_neg (by omega) (e_pos (by simp; omega) (e_pos (by simp) (e_pos (by omega) (e_neg ?_ (E.bind (e_use i1) ?_))))))))))
  ·first | exact fun hh => hh z0 | (intro hh; exact (of_decide_eq_true hh) z0)
  ·have i3' : E (fun k _ _ => f50.l13 k k false own (own.length : Int) 0) (.inr true) := by rw [h.ol]; exact e_use i3
   exact E.bind i3' (E.now _)
 ·simp only [f110, f110.step, spec_in, Option.bind_some, f172, h.ol, decide_eq_true_eq]
  refine E.bind p1 (e_pos rfl (E.bind p2 (e_pos rfl (e_pos (by simp; omega) (e_pos (by simp) (e_pos (by simp) (E.bind (e_fn hb) (e_pos rfl (e_pos (by omega) (e_neg ?_ (E.bind (e_use i2) ?_)))))))))))
  ·first | exact fun hh => hh z0 | (intro hh; exact (of_decide_eq_true hh) z0)
  ·exact E.bind (e_use i4) (E.now _)
theorem node_nd (xs : List Int) (hb : Bytes xs) (hl : xs.length ≤ 1048576) : ∃ (t1 t2 : S66) (own : List ByteArray) (mt : List Int), E (fun k _ _ => f39 k xs) (t1.f0, t1.f1, t1.f2, t1.f3, t1.f4, t2.f0, t2.f1, t2.f2, t2.f3, t2.f4, own, mt) ∧ ND t1 t2 own mt := by
 obtain ⟨t1, t2, q, h, d1, d2, q1, q3⟩ := node_e xs hb hl
 refine ⟨t1, t2, _, _, h, d1, d2, rfl, rfl, own_size.2, by simp; omega, by simp; omega, fun x hx => ?_⟩
 have := List.mem_of_mem_take hx
 simp at this
 omega
theorem specSum2 {k : Nat} (hK : 16777216 ≤ k) {l : List Int} (hb : Bytes l) (hl : l.length ≤ 120) : f113 k l = some (csum l) := by
 have hr := isum_range l hb
 have e1 : f113.l3 k k l 0 0 = some (isum l) := by have := specSum_loop k l hb (by omega) l.length k 0 0 (by omega) rfl (by omega) (by omega) (by omega); simpa using this
 have e2 := specFold k 4000000 k (isum l) hr.1 (by omega) (by omega) (by omega)
 have hf := fold_range hr.1
 simp only [f113, f113.step, e1, e2, Option.bind_some, csum]
 rw [w64 (by omega) (by omega)]
theorem implSum2 {k : Nat} (hK : 16777216 ≤ k) {l : List Int} (hb : Bytes l) (hl : l.length ≤ 120) : f114 k l = some (csum l) := by
 have hr := isum_range l hb
 have e1 : f173.l3 k k l 0 0 = some (isum l) := by have := implSum_loop k l hb (by omega) l.length k 0 0 (by omega) rfl (by omega) (by omega) (by omega); simpa using this
 have e2 := implFold k 4000000 k (isum l) hr.1 (by omega) (by omega) (by omega)
 have hf := fold_range hr.1
 simp only [f114, f114.step, f173, f173.step, e1, e2, Option.bind_some, csum]
 rw [w64 (by omega) (by omega)]
theorem isum_two (a b : Int) (r : List Int) : isum (a :: b :: r) = a * 256 + b + isum r := by simp [isum]
theorem isum_app (n : Nat) : ∀ (a b : List Int), a.length = 2 * n → isum (a ++ b) = isum a + isum b := by
 induction n with
 | zero => intro a b h; have : a = [] := List.length_eq_zero_iff.1 (by omega); subst this; simp [isum]
 | succ n ih =>
  intro a b h
  match a, h with
  | x :: y :: r, h =>
   have := ih r b (by simp at h; omega)
   simp only [List.cons_append, isum_two, this]
   omega
def body (h0 h1 c0 c1 n0 n1 : Int) (p : List Int) : List Int := h0 :: h1 :: c0 :: c1 :: 0 :: 0 :: n0 :: n1 :: p
theorem body_isum (h0 h1 c0 c1 n0 n1 : Int) (p : List Int) : isum (body h0 h1 c0 c1 n0 n1 p) = isum (body h0 h1 0 0 n0 n1 p) + (c0 * 256 + c1) := by
 simp only [body, isum_two]; omega
theorem body_bytes {h0 h1 c0 c1 n0 n1 : Int} {p : List Int} (b0 : 0 ≤ h0 ∧ h0 ≤ 255) (b1 : 0 ≤ h1 ∧ h1 ≤ 255) (b2 : 0 ≤ c0 ∧ c0 ≤ 255) (b3 : 0 ≤ c1 ∧ c1 ≤ 255) (b4 : 0 ≤ n0 ∧ n0 ≤ 255) (b5 : 0 ≤ n1 ∧ n1 ≤ 255) (hp : Bytes p) : Bytes (body h0 h1 c0 c1 n0 n1 p) :=
 (((((((hp.cons b5).cons b4).cons (by omega)).cons (by omega)).cons b3).cons b2).cons b1).cons b0
theorem fold_pos {n : Int} (h : 0 < n) : fold n = (n - 1) % 65535 + 1 := by simp only [fold]; rw [if_neg (by omega)]
theorem fold_zero2 {n : Int} (h : 0 < n) : fold (n + (65535 - fold n)) = 65535 := by
 have e1 := fold_pos h
 have hm : 0 < n + (65535 - fold n) := by omega
 rw [fold_pos hm]
 omega
theorem sum_zero {x : Int} (h : 0 < x) (hx : x < 1000000000) : let c := 65535 - fold x; 65535 - fold (x + (c / 256 * 256 + c % 256)) = 0 := by
 intro c
 have hc : c / 256 * 256 + c % 256 = c := by omega
 rw [hc]
 have : fold (x + c) = 65535 := fold_zero2 h
 omega
theorem impl_from {own : List ByteArray} (ho : own.length = 2) (h0 : (own.getD 0 ByteArray.empty).size = 4) (h1 : (own.getD 1 ByteArray.empty).size = 16) (p : S35) (hv : p.f0 = 4 ∨ p.f0 = 6) {k : Nat} (hk : 3 ≤ k) :
  f104 k own p = some (if p.f0 = 4 then 0 else 1) := by
 have z0 : (own.getD (Int.toNat 0) ByteArray.empty).size = 4 := h0
 have z1 : (own.getD (Int.toNat 1) ByteArray.empty).size = 16 := h1
 have e0 : ∀ q, f105 q (own.getD (Int.toNat 0) ByteArray.empty) p = some (decide (4 = p.f0)) := fun q => by
  simp only [f105, f105.step, f106, f106.step, z0]; rfl
 have e1 : ∀ q, f105 q (own.getD (Int.toNat 1) ByteArray.empty) p = some (decide (6 = p.f0)) := fun q => by
  simp only [f105, f105.step, f106, f106.step, z1]; rfl
 have key : ∀ q j, f104.l2 q (j + 3) own p 2 0 = some (.inl (if p.f0 = 4 then 0 else 1)) := fun q j => by
  simp only [f104.l2, f104.l2.step, ho, e0, e1, w01, w12, Option.bind_some]
  rcases hv with hv | hv
  ·simp [hv]
  ·simp [hv]
 obtain ⟨j, rfl⟩ : ∃ j, k = j + 3 := ⟨k - 3, by omega⟩
 simp only [f104, f104.step, ho]
 rw [show ((2 : Nat) : Int) = 2 from rfl, key]
 rfl
theorem spec_from (own : List ByteArray) (ho : own.length = 2) (h0 : (own.getD 0 ByteArray.empty).size = 4) (h1 : (own.getD 1 ByteArray.empty).size = 16) (B : ByteArray) (hB : B.size = 4 ∨ B.size = 16) (k j : Nat)
  (s172 : ByteArray) (b173 : Bool) (a174 a175 : Int) (xs176 : List S66) (s177 : ByteArray) (b178 : Bool) (a179 a180 : Int) (xs181 : List S66) (xs183 : List Int) (a184 : Int) (s185 : ByteArray) (a187 a188 a189 a190 : Int) (b191 b192 : Bool) (xs193 : List Int) (a194 : Int) (s195 s196 : ByteArray) (a197 a198 a199 a200 : Int) (b201 b202 : Bool) (xs203 : List Int) (a204 : Int) (s205 s206 : ByteArray) (a207 a208 a209 a210 : Int) (b211 b212 : Bool) :
  f42.l30 k (j + 3) 1 s172 b173 a174 a175 xs176 s177 b178 a179 a180 xs181 own xs183 a184 s185 B a187 a188 a189 a190 b191 b192 xs193 a194 s195 s196 a197 a198 a199 a200 b201 b202 xs203 a204 s205 s206 a207 a208 a209 a210 b211 b212 =
   some (a184, s185, B, a187, a188, a189, a190, b191, b192, xs193, a194, s195, s196, a197, a198, a199, a200, b201, b202, xs203, a204, (if B.size = 4 then own.getD 0 ByteArray.empty else own.getD 1 ByteArray.empty), s206, a207, a208, a209, a210, b211, b212) := by
 have z0 : (own.getD (Int.toNat 0) ByteArray.empty).size = 4 := h0
 have z1 : (own.getD (Int.toNat 1) ByteArray.empty).size = 16 := h1
 have w0 : IntKind.i64.wrap ((1 : Int) - 1) = 0 := by rw [w64] <;> omega
 have w1 : IntKind.i64.wrap ((0 : Int) - 1) = -1 := by rw [w64] <;> omega
 simp only [f42.l30, f42.l30.step, ho, z0, z1, w0, w1]
 rcases hB with hB | hB
 ·simp [hB]
 ·simp [hB]
def H0 (v code : Int) : Int := if v = 4 then (if code = 10 then 11 else 3) else (if code = 10 then 3 else if code = 5 then 1 else 2)
def H1 (v code : Int) : Int := if v = 4 then (if code = 11 then 4 else 0) else 0
def mp (v : Int) : Int := if v = 4 then 1 else 58
def N0 (code : Int) : Int := if code = 11 then 5 else 0
def src (own : List ByteArray) (v : Int) : ByteArray := own.getD (Int.toNat (if v = 4 then 0 else 1)) ByteArray.empty
def phead (A B : ByteArray) (n : Nat) : List Int := ((bytesOf (A ++ B) ++ [0, 0]) ++ [(n : Int) / 256, (n : Int) % 256]) ++ [0, 0, 0, 58]
def csumE (v : Int) (A B : ByteArray) (D : List Int) : Int := if v = 4 then csum D else csum (phead A B D.length ++ D)
def dataE (v code : Int) (p : List Int) (c0 c1 : Int) : List Int := body (H0 v code) (H1 v code) c0 c1 (N0 code) 0 (p.take 48)
abbrev RE := (Int × ByteArray × ByteArray × Int × Int × Int × Int × Bool × Bool × Int) ⊕ (Int × ByteArray × ByteArray × Int × Int × Int × Int × Bool × Bool × List Int × Int)
def errR (own : List ByteArray) (v : Int) (A B : ByteArray) (hop proto id off : Int) (more keep : Bool) (d : List Int) (code : Int) : RE :=
 if proto = mp v ∨ 0 < off then .inl (0, ByteArray.empty, ByteArray.empty, 0, 0, 0, 0, false, false, 9)
 else .inr (v, src own v, A, 64, mp v, 0, 0, false, false, dataE v code (pb v A B hop proto id off more keep d) (csumE v (src own v) A (dataE v code (pb v A B hop proto id off more keep d) 0 0) / 256) (csumE v (src own v) A (dataE v code (pb v A B hop proto id off more keep d) 0 0) % 256), 0)
theorem min48 (p : List Int) : List.take ((Int.toNat (if (48 : Int) < ((p.length : Nat) : Int) then (48 : Int) else ((p.length : Nat) : Int))) - 0) (List.drop 0 p) = p.take 48 := by
 split
 ·rfl
 ·rename_i h
  rw [List.take_of_length_le (show p.length ≤ 48 by omega)]
  simp
theorem take48_len (p : List Int) : (p.take 48).length ≤ 48 := by rw [List.length_take]; omega
theorem copy_body (h0 h1 c0 c1 n0 n1 : Int) (p : List Int) : copyL (body h0 h1 0 0 n0 n1 p) 2 ((Int.toNat ((List.length (body h0 h1 0 0 n0 n1 p) : Nat) : Int)) - 2) [c0, c1] = body h0 h1 c0 c1 n0 n1 p := by
 simp only [copyL, body, Int.toNat_natCast, List.length_cons]
 rw [show p.length + 1 + 1 + 1 + 1 + 1 + 1 + 1 + 1 - 2 = p.length + 4 + 2 by omega]
 simp [Nat.min_eq_right]
theorem set_body (h0 h1 c0 c1 n0 n1 : Int) (p : List Int) : List.set (List.set (body h0 h1 0 0 n0 n1 p) 2 c0) 3 c1 = body h0 h1 c0 c1 n0 n1 p := rfl
section
variable {own : List ByteArray} (ho : own.length = 2) (h0 : (own.getD 0 ByteArray.empty).size = 4) (h1 : (own.getD 1 ByteArray.empty).size = 16)
variable {v : Int} {A B : ByteArray} {hop proto id off : Int} {more keep : Bool} {d : List Int} (hpk : PkOK v A B hop proto id off more keep d.length) (hd : Bytes d)
variable {code : Int} (hc : code = 10 ∨ code = 5 ∨ code = 11)
include h0 h1 in
theorem src_size (hv : v = 4 ∨ v = 6) : (src own v).size = if v = 4 then 4 else 16 := by
 rcases hv with rfl | rfl
 ·exact h0
 ·exact h1
theorem dataE_bytes (hb : Bytes (pb v A B hop proto id off more keep d)) {c0 c1 : Int} (g0 : 0 ≤ c0 ∧ c0 ≤ 255) (g1 : 0 ≤ c1 ∧ c1 ≤ 255) : Bytes (dataE v code (pb v A B hop proto id off more keep d) c0 c1) := by
 refine body_bytes ?_ ?_ g0 g1 ?_ (by omega) (hb.take 48)
 ·unfold H0; (repeat' split) <;> omega
 ·unfold H1; (repeat' split) <;> omega
 ·unfold N0; split <;> omega
theorem dataE_len (p : List Int) (c0 c1 : Int) : (dataE v code p c0 c1).length ≤ 56 ∧ 8 ≤ (dataE v code p c0 c1).length := by
 have := take48_len p
 simp only [dataE, body, List.length_cons]
 omega
theorem phead_bytes (A B : ByteArray) (n : Nat) (hn : n ≤ 56) : Bytes (phead A B n) := by
 refine Bytes.append (Bytes.append (Bytes.append (bytesOf_bytes _) ?_) ?_) ?_ <;> intro x hx <;> simp at hx <;> omega
theorem phead_len (A B : ByteArray) (n : Nat) : (phead A B n).length = A.size + B.size + 8 := by
 simp only [phead, List.length_append, bytesOf_length, ByteArray.size_append, List.length_cons, List.length_nil] <;> omega
end
section
variable {own : List ByteArray} (ho : own.length = 2) (h0 : (own.getD 0 ByteArray.empty).size = 4) (h1 : (own.getD 1 ByteArray.empty).size = 16)
variable {v : Int} {A B : ByteArray} {hop proto id off : Int} {more keep : Bool} {d : List Int} (hpk : PkOK v A B hop proto id off more keep d.length) (hd : Bytes d)
variable {code : Int} (hc : code = 10 ∨ code = 5 ∨ code = 11)
include hpk in
theorem pk_v : (v = 4 ∧ A.size = 4 ∧ B.size = 4) ∨ (v = 6 ∧ A.size = 16 ∧ B.size = 16) := by
 rcases hpk.2.2.2 with h | h
 ·exact .inl ⟨h.1, h.2.1, h.2.2.1⟩
 ·exact .inr ⟨h.1, h.2.1, h.2.2.1⟩
include h0 h1 hpk hd
theorem csumE_range : 0 ≤ csumE v (src own v) A (dataE v code (pb v A B hop proto id off more keep d) 0 0) ∧ csumE v (src own v) A (dataE v code (pb v A B hop proto id off more keep d) 0 0) ≤ 65535 := by
 have _ := h0; have _ := h1
 have hb := pb_bytes hpk hd
 have hB := dataE_bytes (v := v) (code := code) hb (c0 := 0) (c1 := 0) (by omega) (by omega)
 have hl := dataE_len (v := v) (code := code) (pb v A B hop proto id off more keep d) 0 0
 unfold csumE
 split
 ·exact csum_range hB
 ·exact csum_range ((phead_bytes _ _ _ (by omega)).append hB)
theorem impl_msum {k : Nat} (hK : 16777216 ≤ k) : f109 k (src own v) A (dataE v code (pb v A B hop proto id off more keep d) 0 0) = some (csumE v (src own v) A (dataE v code (pb v A B hop proto id off more keep d) 0 0)) := by
 have hv := pk_v hpk
 have hs := src_size (own := own) h0 h1 (v := v) (by rcases hv with h | h; exact .inl h.1; exact .inr h.1)
 have hb := pb_bytes hpk hd
 have hB := dataE_bytes (v := v) (code := code) hb (c0 := 0) (c1 := 0) (by omega) (by omega)
 have hl := dataE_len (v := v) (code := code) (pb v A B hop proto id off more keep d) 0 0
 generalize dataE v code (pb v A B hop proto id off more keep d) 0 0 = D at hB hl
 generalize hS : src own v = S at hs
 rcases hv with ⟨rfl, hA, _⟩ | ⟨rfl, hA, _⟩
 ·rw [if_pos rfl] at hs
  simp only [f109, f109.step, hs, csumE]
  rw [if_pos (by decide), implSum2 hK hB (by omega)]
  rfl
 ·rw [if_neg (by omega)] at hs
  have hph := phead_len S A D.length
  have e107 : ∀ q, f107 q (D.length : Int) = some [(D.length : Int) / 256, (D.length : Int) % 256] := fun q => by
   simp only [f107, f107.step, hi8 (a := (D.length : Int)) (by omega), lo8]
  have e58 : IntKind.u8.wrap 58 = 58 := by rw [IntKind.wrap_u8]; rfl
  have hcc : ∀ X : List Int, X = phead S A D.length → f114 k (X ++ D) = some (csum (phead S A D.length ++ D)) := fun X e => by
   subst e
   exact implSum2 hK ((phead_bytes _ _ _ (by omega)).append hB) (by simp only [List.length_append]; omega)
  simp only [f109, f109.step, hs, f171, f171.step, e107, e58, Option.bind_some, csumE]
  rw [if_neg (by decide), if_pos (by simp only [maxN]; omega), if_pos (by simp only [maxN, ByteArray.size_append]; omega), if_neg (by decide)]
  rw [if_pos (by simp only [maxN, bytesOf_length, ByteArray.size_append, List.length_cons, List.length_nil]; omega), if_pos (by simp only [maxN, bytesOf_length, ByteArray.size_append, List.length_cons, List.length_nil, List.length_append]; omega), if_pos (by simp only [maxN, bytesOf_length, ByteArray.size_append, List.length_cons, List.length_nil, List.length_append]; omega)]
  simp only [Option.bind_some]
  rw [if_pos (by simp only [maxN, bytesOf_length, ByteArray.size_append, List.length_cons, List.length_nil, List.length_append]; omega), hcc (bytesOf (S ++ A) ++ [0, 0] ++ [(D.length : Int) / 256, (D.length : Int) % 256] ++ [0, 0, 0, 58]) rfl]
  rfl
include ho hc
theorem impl_err {k : Nat} (hK : 16777216 ≤ k) (s1 : ByteArray) (b2 : Bool) (a3 a4 : Int) (xs5 : List S66) (s6 : ByteArray) (b7 : Bool) (a8 a9 : Int) (xs10 : List S66) (mt : List Int) (hN : f50 k s1 b2 a3 a4 xs5 s6 b7 a8 a9 xs10 own mt = some true) :
  f41 k s1 b2 a3 a4 xs5 s6 b7 a8 a9 xs10 own mt v A B hop proto id off more keep d code 1280 = some (errR own v A B hop proto id off more keep d code) := by
 have hv := pk_v hpk
 have hv' : v = 4 ∨ v = 6 := by rcases hv with h | h; exact .inl h.1; exact .inr h.1
 have hH : f102 k v code = some (.inl ([H0 v code, H1 v code], true)) := by
  rcases hv' with rfl | rfl <;> rcases hc with rfl | rfl | rfl <;> rfl
 have h103 : f103 k v = some (mp v) := by
  rcases hv' with rfl | rfl <;> rfl
 have hfrom : f104 k own (⟨v, A, B, hop, proto, id, off, more, keep, d⟩ : S35) = some (if v = 4 then 0 else 1) := impl_from ho h0 h1 _ hv' (by omega)
 have hb := pb_bytes hpk hd
 have hpl := pb_length hpk
 have hcr := csumE_range (code := code) h0 h1 hpk hd
 have hms := impl_msum (code := code) h0 h1 hpk hd hK
 have hby := impl_bytes (by omega : 2097152 ≤ k) hpk
 have hw : f107 k (csumE v (src own v) A (dataE v code (pb v A B hop proto id off more keep d) 0 0)) = some [csumE v (src own v) A (dataE v code (pb v A B hop proto id off more keep d) 0 0) / 256, csumE v (src own v) A (dataE v code (pb v A B hop proto id off more keep d) 0 0) % 256] := by
  simp only [f107, f107.step, hi8 hcr, lo8]
 have hdl := dataE_len (v := v) (code := code) (pb v A B hop proto id off more keep d) 0 0
 have hi0 : (0 : Int) ≤ (if v = 4 then (0 : Int) else 1) ∧ (if v = 4 then (0 : Int) else 1) < 2 := by split <;> omega
 unfold errR
 simp only [f41, f41.step, hN, pk_impl, tb hpk, Option.bind_some, hH, Sum.elim_inl, in_impl, h103, hfrom, hby, min48]
 rw [if_pos (by rfl), if_neg (by simp), if_pos (by decide), if_neg (by simp)]
 by_cases c1 : proto = mp v
 ·rw [if_neg (by simp [c1]), if_pos (.inl c1)]
 rw [if_pos (ff c1)]
 by_cases c2 : off > 0
 ·rw [if_pos (tb c2), if_pos (.inr c2)]
 rw [if_neg (fb c2), if_pos hi0.1, if_pos (by rw [ho]; exact hi0.2), if_neg (by omega : ¬ (proto = mp v ∨ 0 < off))]
 have fin : ∀ (w : List Int), w = [N0 code, 0] → ((([H0 v code, H1 v code] ++ [0, 0, 0, 0]) ++ w) ++ (pb v A B hop proto id off more keep d).take 48) = dataE v code (pb v A B hop proto id off more keep d) 0 0 := fun w e => by subst e; rfl
 have len2 : (2 : Int) ≤ ((dataE v code (pb v A B hop proto id off more keep d) 0 0).length : Int) := by omega
 have hcp : ∀ c0 c1 : Int, copyL (dataE v code (pb v A B hop proto id off more keep d) 0 0) 2 ((Int.toNat ((List.length (dataE v code (pb v A B hop proto id off more keep d) 0 0) : Nat) : Int)) - 2) [c0, c1] = dataE v code (pb v A B hop proto id off more keep d) c0 c1 := fun c0 c1 => copy_body _ _ _ _ _ _ _
 have hmn : (0 : Int) ≤ (if (48 : Int) < (((pb v A B hop proto id off more keep d).length : Nat) : Int) then (48 : Int) else (((pb v A B hop proto id off more keep d).length : Nat) : Int)) ∧ (if (48 : Int) < (((pb v A B hop proto id off more keep d).length : Nat) : Int) then (48 : Int) else (((pb v A B hop proto id off more keep d).length : Nat) : Int)) ≤ (((pb v A B hop proto id off more keep d).length : Nat) : Int) ∧ (Int.toNat (if (48 : Int) < (((pb v A B hop proto id off more keep d).length : Nat) : Int) then (48 : Int) else (((pb v A B hop proto id off more keep d).length : Nat) : Int))) ≤ 48 := by split <;> omega
 have hsrc : own.getD (Int.toNat (if v = 4 then (0 : Int) else 1)) ByteArray.empty = src own v := rfl
 by_cases c3 : code = 11
 ·have e107 : f107 k 1280 = some [N0 code, 0] := by subst c3; rfl
  rw [if_neg (by simp [c3]), if_pos (by simp [maxN]), e107]
  simp only [Option.bind_some]
  rw [if_pos (by simp [maxN]), if_pos hmn.1, if_pos hmn.2.1, if_pos (by simp only [maxN, List.length_append, List.length_cons, List.length_nil]; omega)]
  rw [fin _ rfl, if_pos len2, if_pos (Int.le_refl _), hsrc, hms]
  simp only [Option.bind_some, hw, hcp]
 ·have e107 : f107 k 0 = some [N0 code, 0] := by rw [N0, if_neg c3]; rfl
  rw [if_pos (tb c3), if_pos (by simp [maxN]), e107]
  simp only [Option.bind_some]
  rw [if_pos (by simp [maxN]), if_pos hmn.1, if_pos hmn.2.1, if_pos (by simp only [maxN, List.length_append, List.length_cons, List.length_nil]; omega)]
  rw [fin _ rfl, if_pos len2, if_pos (Int.le_refl _), hsrc, hms]
  simp only [Option.bind_some, hw, hcp]
end
theorem q5_run {code : Int} (hc : code = 10 ∨ code = 5 ∨ code = 11) (k : Nat) (s29 : ByteArray) (b30 : Bool) (a31 : Int) (a32 : Int) (xs33 : List S66) (s34 : ByteArray) (b35 : Bool) (a36 : Int) (a37 : Int) (xs38 : List S66) (xs39 : List ByteArray) (xs40 : List Int) (a41 : Int) (s42 : ByteArray) (s43 : ByteArray) (a44 : Int) (a45 : Int) (a46 : Int) (a47 : Int) (b48 : Bool) (b49 : Bool) (xs50 : List Int) (a51 : Int) (s52 : ByteArray) (s53 : ByteArray) (a54 : Int) (a55 : Int) (a56 : Int) (a57 : Int) (b58 : Bool) (b59 : Bool) : f42.q100005 k code 1280 s29 b30 a31 a32 xs33 s34 b35 a36 a37 xs38 xs39 xs40 a41 s42 s43 a44 a45 a46 a47 b48 b49 xs50 a51 s52 s53 a54 a55 a56 a57 b58 b59 = some (.inr (code, 1280, s29, b30, a31, a32, xs33, s34, b35, a36, a37, xs38, xs39, xs40, a41, s42, s43, a44, a45, a46, a47, b48, b49, xs50, a51, s52, s53, a54, a55, a56, a57, b58, b59)) := by
 simp only [f42.q100005, f42.q100005.step, in_spec, Option.bind_some]
 rcases hc with rfl | rfl | rfl <;> rfl
theorem q7_run {v proto off : Int} (hv : v = 4 ∨ v = 6) (hp : proto ≠ mp v) (ho : ¬ 0 < off) (k : Nat) (a63 : Int) (a64 : Int) (s65 : ByteArray) (b66 : Bool) (a67 : Int) (a68 : Int) (xs69 : List S66) (s70 : ByteArray) (b71 : Bool) (a72 : Int) (a73 : Int) (xs74 : List S66) (xs75 : List ByteArray) (xs76 : List Int) (s78 : ByteArray) (s79 : ByteArray) (a80 : Int) (a82 : Int) (b84 : Bool) (b85 : Bool) (xs86 : List Int) (a87 : Int) (s88 : ByteArray) (s89 : ByteArray) (a90 : Int) (a91 : Int) (a92 : Int) (a93 : Int) (b94 : Bool) (b95 : Bool) : f42.q100007 k a63 a64 s65 b66 a67 a68 xs69 s70 b71 a72 a73 xs74 xs75 xs76 v s78 s79 a80 proto a82 off b84 b85 xs86 a87 s88 s89 a90 a91 a92 a93 b94 b95 = some (.inr (a63, a64, s65, b66, a67, a68, xs69, s70, b71, a72, a73, xs74, xs75, xs76, v, s78, s79, a80, proto, a82, off, b84, b85, xs86, a87, s88, s89, a90, a91, a92, a93, b94, b95)) := by
 simp only [f42.q100007, f42.q100007.step]
 rcases hv with rfl | rfl
 ·have h1 : proto ≠ 1 := hp
  simp [h1, ho]
 ·have h1 : proto ≠ 58 := hp
  simp [h1, ho]
theorem q7_bad {v proto off : Int} (hv : v = 4 ∨ v = 6) (hp : proto = mp v ∨ 0 < off) (k : Nat) (a63 : Int) (a64 : Int) (s65 : ByteArray) (b66 : Bool) (a67 : Int) (a68 : Int) (xs69 : List S66) (s70 : ByteArray) (b71 : Bool) (a72 : Int) (a73 : Int) (xs74 : List S66) (xs75 : List ByteArray) (xs76 : List Int) (s78 : ByteArray) (s79 : ByteArray) (a80 : Int) (a82 : Int) (b84 : Bool) (b85 : Bool) (xs86 : List Int) (a87 : Int) (s88 : ByteArray) (s89 : ByteArray) (a90 : Int) (a91 : Int) (a92 : Int) (a93 : Int) (b94 : Bool) (b95 : Bool) : f42.q100007 k a63 a64 s65 b66 a67 a68 xs69 s70 b71 a72 a73 xs74 xs75 xs76 v s78 s79 a80 proto a82 off b84 b85 xs86 a87 s88 s89 a90 a91 a92 a93 b94 b95 = some (.inl (a63, a64, (9 : Int), s65, b66, a67, a68, xs69, s70, b71, a72, a73, xs74, xs75, xs76, v, s78, s79, a80, proto, a82, off, b84, b85, xs86, (0 : Int), ByteArray.empty, ByteArray.empty, (0 : Int), (0 : Int), (0 : Int), (0 : Int), false, false)) := by
 simp only [f42.q100007, f42.q100007.step]
 rcases hv with rfl | rfl
 ·rcases hp with rfl | hp
  ·rfl
  ·by_cases h1 : proto = 1 <;> simp [h1, hp]
 ·rcases hp with rfl | hp
  ·rfl
  ·by_cases h1 : proto = 58 <;> simp [h1, hp]
theorem j11_run (code : Int) (k : Nat) (s102 : ByteArray) (b103 : Bool) (a104 : Int) (a105 : Int) (xs106 : List S66) (s107 : ByteArray) (b108 : Bool) (a109 : Int) (a110 : Int) (xs111 : List S66) (xs112 : List ByteArray) (xs113 : List Int) (a114 : Int) (s115 : ByteArray) (s116 : ByteArray) (a117 : Int) (a118 : Int) (a119 : Int) (a120 : Int) (b121 : Bool) (b122 : Bool) (xs123 : List Int) (a124 : Int) (s125 : ByteArray) (s126 : ByteArray) (a127 : Int) (a128 : Int) (a129 : Int) (a130 : Int) (b131 : Bool) (b132 : Bool) : f42.j11 k code 1280 0 (decide (code = 11)) s102 b103 a104 a105 xs106 s107 b108 a109 a110 xs111 xs112 xs113 a114 s115 s116 a117 a118 a119 a120 b121 b122 xs123 a124 s125 s126 a127 a128 a129 a130 b131 b132 = some (code, (if code = 11 then 1280 else 0), s102, b103, a104, a105, xs106, s107, b108, a109, a110, xs111, xs112, xs113, a114, s115, s116, a117, a118, a119, a120, b121, b122, xs123, a124, s125, s126, a127, a128, a129, a130, b131, b132) := by
 simp only [f42.j11, f42.j11.step]
 by_cases h : code = 11 <;> simp [h]
theorem q14_run {v code : Int} (hv : v = 4 ∨ v = 6) (hc : code = 10 ∨ code = 5 ∨ code = 11) (k : Nat) (a135 : Int) (s136 : ByteArray) (b137 : Bool) (a138 : Int) (a139 : Int) (xs140 : List S66) (s141 : ByteArray) (b142 : Bool) (a143 : Int) (a144 : Int) (xs145 : List S66) (xs146 : List ByteArray) (xs147 : List Int) (s149 : ByteArray) (s150 : ByteArray) (a151 : Int) (a152 : Int) (a153 : Int) (a154 : Int) (b155 : Bool) (b156 : Bool) (xs157 : List Int) (a158 : Int) (s159 : ByteArray) (s160 : ByteArray) (a161 : Int) (a162 : Int) (a163 : Int) (a164 : Int) (b165 : Bool) (b166 : Bool) : f42.q100014 k code a135 s136 b137 a138 a139 xs140 s141 b142 a143 a144 xs145 xs146 xs147 v s149 s150 a151 a152 a153 a154 b155 b156 xs157 a158 s159 s160 a161 a162 a163 a164 b165 b166 [] = some (a135, s136, b137, a138, a139, xs140, s141, b142, a143, a144, xs145, xs146, xs147, v, s149, s150, a151, a152, a153, a154, b155, b156, xs157, a158, s159, s160, a161, a162, a163, a164, b165, b166, [H0 v code, H1 v code]) := by
 simp only [f42.q100014, f42.q100014.step]
 rcases hv with rfl | rfl <;> rcases hc with rfl | rfl | rfl <;> rfl
section
variable {own : List ByteArray} (ho : own.length = 2) (h0 : (own.getD 0 ByteArray.empty).size = 4) (h1 : (own.getD 1 ByteArray.empty).size = 16)
variable {v : Int} {A B : ByteArray} {hop proto id off : Int} {more keep : Bool} {d : List Int} (hpk : PkOK v A B hop proto id off more keep d.length) (hd : Bytes d)
variable {code : Int} (hc : code = 10 ∨ code = 5 ∨ code = 11)
include ho h0 h1 hpk hd hc
theorem spec_err {k : Nat} (hK : 16777216 ≤ k) (s1 : ByteArray) (b2 : Bool) (a3 a4 : Int) (xs5 : List S66) (s6 : ByteArray) (b7 : Bool) (a8 a9 : Int) (xs10 : List S66) (mt : List Int) (hmt : mt.length ≤ 6) (hN : f110 k s1 b2 a3 a4 xs5 s6 b7 a8 a9 xs10 own mt = some true) :
  f42 k s1 b2 a3 a4 xs5 s6 b7 a8 a9 xs10 own mt v A B hop proto id off more keep d code 1280 = some (errR own v A B hop proto id off more keep d code) := by
 have hv := pk_v hpk
 have hv' : v = 4 ∨ v = 6 := by rcases hv with h | h; exact .inl h.1; exact .inr h.1
 have hb := pb_bytes hpk hd
 have hpl := pb_length hpk
 have hcr := csumE_range (code := code) h0 h1 hpk hd
 have hby := spec_bytes (by omega : 2097152 ≤ k) hpk
 have hBs : B.size = 4 ∨ B.size = 16 := by rcases hv with h | h; exact .inl h.2.2; exact .inr h.2.2
 have hsr : (if B.size = 4 then own.getD 0 ByteArray.empty else own.getD 1 ByteArray.empty) = src own v := by
  rcases hv with ⟨rfl, _, h⟩ | ⟨rfl, _, h⟩ <;> rw [h] <;> rfl
 have hss := src_size (own := own) h0 h1 hv'
 have hnum : ∀ q, f111 q (if code = 11 then 1280 else 0) = some [N0 code, 0] := fun q => by
  rcases hc with rfl | rfl | rfl <;> rfl
 have hdl := dataE_len (v := v) (code := code) (pb v A B hop proto id off more keep d) 0 0
 have hDB := dataE_bytes (v := v) (code := code) hb (c0 := 0) (c1 := 0) (by omega) (by omega)
 have hmn : (0 : Int) ≤ (if (48 : Int) < (((pb v A B hop proto id off more keep d).length : Nat) : Int) then (48 : Int) else (((pb v A B hop proto id off more keep d).length : Nat) : Int)) ∧ (if (48 : Int) < (((pb v A B hop proto id off more keep d).length : Nat) : Int) then (48 : Int) else (((pb v A B hop proto id off more keep d).length : Nat) : Int)) ≤ (((pb v A B hop proto id off more keep d).length : Nat) : Int) ∧ (Int.toNat (if (48 : Int) < (((pb v A B hop proto id off more keep d).length : Nat) : Int) then (48 : Int) else (((pb v A B hop proto id off more keep d).length : Nat) : Int))) ≤ 48 := by split <;> omega
 have w21 : IntKind.i64.wrap (((2 : Nat) : Int) - 1) = 1 := by rw [w64] <;> omega
 have fin : (([H0 v code, H1 v code] ++ [0, 0, 0, 0]) ++ [N0 code, 0]) ++ (pb v A B hop proto id off more keep d).take 48 = dataE v code (pb v A B hop proto id off more keep d) 0 0 := rfl
 obtain ⟨j, hj⟩ : ∃ j, k = j + 3 := ⟨k - 3, by omega⟩
 unfold errR
 simp only [f42, f42.step, hN, pk_spec, tb hpk, Option.bind_some, q5_run hc, Sum.elim_inr]
 rw [if_pos (by rw [ho]; rfl), if_neg (fb (by omega)), if_pos (by rfl), if_neg (by simp)]
 by_cases c1 : proto = mp v ∨ 0 < off
 ·rw [if_pos c1]
  simp only [q7_bad hv' c1, Option.bind_some, Sum.elim_inl]
 have c2 : proto ≠ mp v := fun h => c1 (.inl h)
 have c3 : ¬ 0 < off := fun h => c1 (.inr h)
 rw [if_neg c1]
 simp only [q7_run hv' c2 c3, Option.bind_some, Sum.elim_inr, j11_run, q14_run hv' hc, hnum, hby, min48, ho, w21]
 rw [if_pos (by simp [maxN]), if_pos (by simp [maxN]), if_pos hmn.1, if_pos hmn.2.1, if_pos (by simp only [maxN, List.length_append, List.length_cons, List.length_nil]; omega)]
 have hl30 := spec_from own ho h0 h1 B hBs k j
 rw [← hj] at hl30
 simp only [hl30, Option.bind_some, hsr, fin]
 have hhi : ∀ c : Int, 0 ≤ c ∧ c ≤ 65535 → List.set (List.set (dataE v code (pb v A B hop proto id off more keep d) 0 0) 2 (IntKind.u8.wrap (IntKind.i64.wrap (Int.tdiv c 256)))) 3 (IntKind.u8.wrap (Int.tmod c 256)) = dataE v code (pb v A B hop proto id off more keep d) (c / 256) (c % 256) := fun c h => by
  rw [hi8s h, lo8s h]; exact set_body _ _ _ _ _ _ _
 rcases hv with ⟨rfl, hA, _⟩ | ⟨rfl, hA, _⟩
 ·have hcs : csumE 4 (src own 4) A (dataE 4 code (pb 4 A B hop proto id off more keep d) 0 0) = csum (dataE 4 code (pb 4 A B hop proto id off more keep d) 0 0) := by rw [csumE, if_pos rfl]
  rw [hcs] at hcr ⊢
  rw [if_neg (by simp), specSum2 hK hDB (by omega)]
  simp only [Option.bind_some]
  rw [if_pos (by omega), if_pos (by rw [List.length_set]; omega), hhi _ hcr]
  rfl
 ·rw [if_neg (by omega)] at hss
  have hph := phead_len (src own 6) A (dataE 6 code (pb 6 A B hop proto id off more keep d) 0 0).length
  have e111 : ∀ q, f111 q ((dataE 6 code (pb 6 A B hop proto id off more keep d) 0 0).length : Int) = some [((dataE 6 code (pb 6 A B hop proto id off more keep d) 0 0).length : Int) / 256, ((dataE 6 code (pb 6 A B hop proto id off more keep d) 0 0).length : Int) % 256] := fun q => by
   simp only [f111, f111.step, hi8s (a := ((dataE 6 code (pb 6 A B hop proto id off more keep d) 0 0).length : Int)) (by omega), lo8s (a := ((dataE 6 code (pb 6 A B hop proto id off more keep d) 0 0).length : Int)) (by omega)]
  have hcs : csumE 6 (src own 6) A (dataE 6 code (pb 6 A B hop proto id off more keep d) 0 0) = csum (phead (src own 6) A (dataE 6 code (pb 6 A B hop proto id off more keep d) 0 0).length ++ dataE 6 code (pb 6 A B hop proto id off more keep d) 0 0) := by rw [csumE, if_neg (by omega)]
  rw [hcs] at hcr ⊢
  have hsum : f113 k (phead (src own 6) A (dataE 6 code (pb 6 A B hop proto id off more keep d) 0 0).length ++ dataE 6 code (pb 6 A B hop proto id off more keep d) 0 0) = some _ := specSum2 hK ((phead_bytes _ _ _ (by omega)).append hDB) (by rw [List.length_append]; omega)
  generalize hD : dataE 6 code (pb 6 A B hop proto id off more keep d) 0 0 = D at *
  rw [if_pos (by simp), if_pos (by simp only [maxN]; omega), if_pos (by simp only [maxN, ByteArray.size_append]; omega), if_pos (by simp only [maxN, bytesOf_length, ByteArray.size_append, List.length_cons, List.length_nil]; omega), e111]
  simp only [Option.bind_some]
  rw [if_pos (by simp only [maxN, bytesOf_length, ByteArray.size_append, List.length_cons, List.length_nil, List.length_append]; omega), if_pos (by simp only [maxN, bytesOf_length, ByteArray.size_append, List.length_cons, List.length_nil, List.length_append]; omega), if_pos (by simp only [maxN, bytesOf_length, ByteArray.size_append, List.length_cons, List.length_nil, List.length_append]; omega)]
  have hsum' : f113 k (bytesOf (src own 6 ++ A) ++ [0, 0] ++ [(D.length : Int) / 256, (D.length : Int) % 256] ++ [0, 0, 0, 58] ++ D) = some _ := hsum
  rw [hsum']
  simp only [Option.bind_some]
  rw [if_pos (by omega), if_pos (by rw [List.length_set]; omega), hhi _ hcr]
  rfl
end
theorem at3_ok (k : Nat) {xs : List Int} (hb : Bytes xs) (hl : xs.length ≤ 1048576) : ∃ v, f15 k xs 0 3 = some v ∧ 0 ≤ v ∧ v < 3 := by
 simp only [f15, f15.step]
 rw [if_neg (by simp)]
 by_cases h : xs.length = 0
 ·rw [if_pos (by simp [h]), if_pos (by omega)]
  exact ⟨_, rfl, by decide, by decide⟩
 ·have b0 := getD_byte hb 0
  have m0 : Int.tmod 0 (xs.length : Int) = 0 := by simp
  have d0 : Int.tdiv 0 (xs.length : Int) = 0 := by simp
  have m1 : 0 ≤ Int.tmod (1 : Int) (xs.length : Int) ∧ Int.tmod (1 : Int) (xs.length : Int) < (xs.length : Int) := by
   rw [Int.tmod_eq_emod_of_nonneg (by omega)]
   exact ⟨Int.emod_nonneg _ (by omega), Int.emod_lt_of_pos _ (by omega)⟩
  have w1 : IntKind.i64.wrap ((0 : Int) + 1) = 1 := by rw [w64] <;> omega
  have b1 := getD_byte hb (Int.tmod (1 : Int) (xs.length : Int)).toNat
  rw [if_neg (by simp [h]), if_pos (by omega)]
  simp only [m0, d0, w1]
  rw [if_pos (by omega), if_pos (by omega), if_pos (by omega), if_pos m1.1, if_pos m1.2, if_pos (by omega), if_pos (by omega)]
  have e0 : (Int.toNat 0) = 0 := rfl
  rw [e0]
  generalize xs.getD 0 0 = x at b0
  generalize xs.getD (Int.tmod (1 : Int) (xs.length : Int)).toNat 0 = y at b1
  have wx : IntKind.i64.wrap x = x := w64 (by omega) (by omega)
  have wy : IntKind.i64.wrap y = y := w64 (by omega) (by omega)
  have w0 : IntKind.i64.wrap 0 = 0 := w64 (by omega) (by omega)
  rw [wx, wy, w0, w64 (n := x * 31) (by omega) (by omega), w64 (n := x * 31 + y) (by omega) (by omega), w64 (n := x * 31 + y + 0) (by omega) (by omega), Int.tmod_eq_emod_of_nonneg (by omega)]
  exact ⟨_, rfl, by omega, by omega⟩
theorem same_self (k : Nat) (a1 : Int) (s2 s3 : ByteArray) (a4 a5 a6 a7 : Int) (b8 b9 : Bool) (xs : List Int) : f18 k a1 s2 s3 a4 a5 a6 a7 b8 b9 xs a1 s2 s3 a4 a5 a6 a7 b8 b9 xs = some true := by
 simp [f18, f18.step]
theorem head_pos {v code : Int} (hv : v = 4 ∨ v = 6) (hc : code = 10 ∨ code = 5 ∨ code = 11) : 1 ≤ H0 v code ∧ 0 ≤ H1 v code := by
 rcases hv with rfl | rfl <;> rcases hc with rfl | rfl | rfl <;> decide
theorem dataE_isum (v code : Int) (p : List Int) (c0 c1 : Int) : isum (dataE v code p c0 c1) = isum (dataE v code p 0 0) + (c0 * 256 + c1) := body_isum _ _ _ _ _ _ _
theorem FnErrors : Says := by
 intro xs ys ⟨_, hx⟩ ⟨_, hy⟩
 have hbx : Bytes xs := fun x h => wf_u8 (hx x h)
 have hby : Bytes ys := fun x h => wf_u8 (hy x h)
 by_cases lx : xs.length ≤ 1048576
 case neg => exact ⟨0, by simp only [f7, f7.step]; rw [if_neg (by simp; omega)]⟩
 by_cases ly : ys.length ≤ 1048576
 case neg => exact ⟨0, by simp only [f7, f7.step]; rw [if_pos (ff (by omega)), if_pos (tb (by omega))]⟩
 obtain ⟨t1, t2, own, mt, eN, hN⟩ := node_nd xs hbx lx
 obtain ⟨oN1, oN2⟩ := hN.ok
 obtain ⟨K1, k1⟩ := eN
 obtain ⟨K2, k2⟩ := oN1
 obtain ⟨K3, k3⟩ := oN2
 obtain ⟨k, hk1, hk2, hk3, hK⟩ : ∃ k : Nat, K1 ≤ k ∧ K2 ≤ k ∧ K3 ≤ k ∧ 16777216 ≤ k := ⟨K1 + K2 + K3 + 16777216, by omega, by omega, by omega, by omega⟩
 have n1 := k1 k k k hk1 hk1 hk1
 have n2 := k2 k k k hk2 hk2 hk2
 have n3 := k3 k k k hk3 hk3 hk3
 simp only at n1 n2 n3
 refine ⟨k, ?_⟩
 have g : GS ys 0 (Int.tmod (ys.length : Int) 1000) 0 := by
  rw [Int.tmod_eq_emod_of_nonneg (by omega)]
  exact ⟨ly, hby, by omega, by omega, by omega, by omega⟩
 obtain ⟨⟨v, A, B, hop, proto, id, off, more, keep, d, xs', a, s⟩, e, hpk, hdB, hd, hxs, g1⟩ := packet_ok (by omega : 2097152 ≤ k) g (by omega)
 simp only at hpk hdB hd hxs g1
 have e40 : f40 k ys = some (v, A, B, hop, proto, id, off, more, keep, d) := by
  simp only [f40, f40.step, f54, f54.step, Option.bind_some, e]
 obtain ⟨q, eq, q0, q3⟩ := at3_ok k hby ly
 have hc : List.getD ([10, 5, 11] : List Int) (Int.toNat q) 0 = 10 ∨ List.getD ([10, 5, 11] : List Int) (Int.toNat q) 0 = 5 ∨ List.getD ([10, 5, 11] : List Int) (Int.toNat q) 0 = 11 := by
  rcases (show q = 0 ∨ q = 1 ∨ q = 2 by omega) with rfl | rfl | rfl
  ·exact .inl rfl
  ·exact .inr (.inl rfl)
  ·exact .inr (.inr rfl)
 simp only [f7, f7.step, n1, e40, eq, Option.bind_some]
 generalize List.getD ([10, 5, 11] : List Int) (Int.toNat q) 0 = code at hc
 have hv := pk_v hpk
 have hv' : v = 4 ∨ v = 6 := by rcases hv with h | h; exact .inl h.1; exact .inr h.1
 have hi := impl_err hN.ol hN.o0 hN.o1 hpk hdB hc hK t1.f0 t1.f1 t1.f2 t1.f3 t1.f4 t2.f0 t2.f1 t2.f2 t2.f3 t2.f4 mt n2
 have hs := spec_err hN.ol hN.o0 hN.o1 hpk hdB hc hK t1.f0 t1.f1 t1.f2 t1.f3 t1.f4 t2.f0 t2.f1 t2.f2 t2.f3 t2.f4 mt hN.m6 n3
 have hb := pb_bytes hpk hdB
 have hpl := pb_length hpk
 have hcr := csumE_range (code := code) hN.o0 hN.o1 hpk hdB
 have hspb : f43 k v A B hop proto id off more keep d = some (pb v A B hop proto id off more keep d, 0) := by
  simp only [f43, f43.step, pk_spec, tb hpk, spec_bytes (by omega : 2097152 ≤ k) hpk, Option.bind_some, Bool.not_true, Bool.false_eq_true, if_false]
 rw [if_pos (ff (by omega)), if_neg (fb (by omega)), if_pos q0, if_pos (by simp; omega), hi, hs]
 by_cases c1 : proto = mp v ∨ 0 < off
 ·simp only [errR, if_pos c1, Option.bind_some, Sum.elim_inl, same_self]
  simp
 ·have hE : errR own v A B hop proto id off more keep d code = .inr (v, src own v, A, 64, mp v, 0, 0, false, false, dataE v code (pb v A B hop proto id off more keep d) (csumE v (src own v) A (dataE v code (pb v A B hop proto id off more keep d) 0 0) / 256) (csumE v (src own v) A (dataE v code (pb v A B hop proto id off more keep d) 0 0) % 256), 0) := by rw [errR, if_neg c1]
  have hcE : csumE v (src own v) A (dataE v code (pb v A B hop proto id off more keep d) 0 0) = if v = 4 then csum (dataE v code (pb v A B hop proto id off more keep d) 0 0) else csum (phead (src own v) A (dataE v code (pb v A B hop proto id off more keep d) 0 0).length ++ dataE v code (pb v A B hop proto id off more keep d) 0 0) := rfl
  generalize hcc : csumE v (src own v) A (dataE v code (pb v A B hop proto id off more keep d) 0 0) = c at hE hcE hcr
  have hdl := dataE_len (v := v) (code := code) (pb v A B hop proto id off more keep d) (c / 256) (c % 256)
  have hdl0 := dataE_len (v := v) (code := code) (pb v A B hop proto id off more keep d) 0 0
  have hDB := dataE_bytes (v := v) (code := code) hb (c0 := c / 256) (c1 := c % 256) (by omega) (by omega)
  have hDB0 := dataE_bytes (v := v) (code := code) hb (c0 := 0) (c1 := 0) (by omega) (by omega)
  have hsz := src_size (own := own) hN.o0 hN.o1 hv'
  have hsum := dataE_isum v code (pb v A B hop proto id off more keep d) (c / 256) (c % 256)
  have hpos := head_pos hv' hc
  have hipos : 0 < isum (dataE v code (pb v A B hop proto id off more keep d) 0 0) := by
   have h48 := (hb.take 48)
   have := (isum_range _ h48).1
   have hn0 : 0 ≤ N0 code := by unfold N0; split <;> omega
   simp only [dataE, body, isum_two]
   omega
  have hdrop : List.drop 8 (dataE v code (pb v A B hop proto id off more keep d) (c / 256) (c % 256)) = (pb v A B hop proto id off more keep d).take 48 := rfl
  have hlen : (dataE v code (pb v A B hop proto id off more keep d) (c / 256) (c % 256)).length = 8 + ((pb v A B hop proto id off more keep d).take 48).length := by simp only [dataE, body, List.length_cons]; omega
  have hilt : isum (dataE v code (pb v A B hop proto id off more keep d) 0 0) < 100000000 := by
   have := (isum_range _ hDB0).2
   omega
  have hpk2 : PkOK v (src own v) A 64 (mp v) 0 0 false false (dataE v code (pb v A B hop proto id off more keep d) (c / 256) (c % 256)).length := by
   rcases hv with ⟨rfl, hA, _⟩ | ⟨rfl, hA, _⟩
   ·exact ⟨by omega, by decide, by omega, .inl ⟨rfl, by rw [hsz]; rfl, hA, by omega, by omega, fun h => by simp at h, fun h => by simp at h, by omega⟩⟩
   ·exact ⟨by omega, by decide, by omega, .inr ⟨rfl, by rw [hsz]; rfl, hA, rfl, rfl, rfl, rfl⟩⟩
  have hi2 := impl_err hN.ol hN.o0 hN.o1 hpk2 hDB hc hK t1.f0 t1.f1 t1.f2 t1.f3 t1.f4 t2.f0 t2.f1 t2.f2 t2.f3 t2.f4 mt n2
  have hE2 : errR own v (src own v) A 64 (mp v) 0 0 false false (dataE v code (pb v A B hop proto id off more keep d) (c / 256) (c % 256)) code = .inl (0, ByteArray.empty, ByteArray.empty, 0, 0, 0, 0, false, false, 9) := by rw [errR, if_pos (.inl rfl)]
  rw [hE2] at hi2
  have hsm : f45 k (dataE v code (pb v A B hop proto id off more keep d) (c / 256) (c % 256)) = some (csum (dataE v code (pb v A B hop proto id off more keep d) (c / 256) (c % 256))) := by
   simp only [f45, f45.step]
   rw [if_neg (fb (by omega)), implSum2 hK hDB (by omega)]
   rfl
  have hps : v = 6 → f46 k (src own v) A 58 (dataE v code (pb v A B hop proto id off more keep d) (c / 256) (c % 256)) = some (csum (phead (src own v) A (dataE v code (pb v A B hop proto id off more keep d) (c / 256) (c % 256)).length ++ dataE v code (pb v A B hop proto id off more keep d) (c / 256) (c % 256)), 0) := fun h6 => by
   have hA : A.size = 16 := by rcases hv with h | h; exact absurd h.1 (by omega); exact h.2.1
   have hS : (src own v).size = 16 := by rw [hsz, if_neg (by omega)]
   generalize dataE v code (pb v A B hop proto id off more keep d) (c / 256) (c % 256) = D at hdl hDB
   generalize src own v = S at hS
   have hph := phead_len S A D.length
   have e111 : ∀ q, f111 q (D.length : Int) = some [(D.length : Int) / 256, (D.length : Int) % 256] := fun q => by
    simp only [f111, f111.step, hi8s (a := (D.length : Int)) (by omega), lo8s (a := (D.length : Int)) (by omega)]
   have e58 : IntKind.u8.wrap 58 = 58 := by rw [IntKind.wrap_u8]; rfl
   have hsum0 : f113 k (phead S A D.length ++ D) = some (csum (phead S A D.length ++ D)) := specSum2 hK ((phead_bytes S A _ (by omega)).append hDB) (by rw [List.length_append]; omega)
   have hsum : f113 k (bytesOf (S ++ A) ++ [0, 0] ++ [(D.length : Int) / 256, (D.length : Int) % 256] ++ [0, 0, 0, 58] ++ D) = some (csum (phead S A D.length ++ D)) := hsum0
   simp only [f46, f46.step, f115, f115.step, in_spec, f116, f116.step, e111, e58, hS, hA, Option.bind_some]
   rw [if_pos (by simp), if_pos (by simp)]
   simp only [Option.bind_some]
   rw [if_neg (by simp), if_pos (by simp), if_neg (fb (by omega)), if_pos (by simp only [maxN]; omega), if_pos (by simp only [maxN, ByteArray.size_append]; omega), if_neg (by simp), if_pos (by simp only [maxN, bytesOf_length, ByteArray.size_append, List.length_cons, List.length_nil]; omega), if_pos (by simp only [maxN, bytesOf_length, ByteArray.size_append, List.length_cons, List.length_nil, List.length_append]; omega), if_pos (by simp only [maxN, bytesOf_length, ByteArray.size_append, List.length_cons, List.length_nil, List.length_append]; omega)]
   simp only [Option.bind_some]
   rw [if_pos (by simp only [maxN, bytesOf_length, ByteArray.size_append, List.length_cons, List.length_nil, List.length_append]; omega), hsum]
   rfl
  simp only [hE, Option.bind_some, Sum.elim_inr, same_self, hspb, hi2, Sum.elim_inl, pk_impl, tb hpk2, hsm]
  have hmn : (0 : Int) ≤ (if (48 : Int) < (((pb v A B hop proto id off more keep d).length : Nat) : Int) then (48 : Int) else (((pb v A B hop proto id off more keep d).length : Nat) : Int)) ∧ (if (48 : Int) < (((pb v A B hop proto id off more keep d).length : Nat) : Int) then (48 : Int) else (((pb v A B hop proto id off more keep d).length : Nat) : Int)) ≤ (((pb v A B hop proto id off more keep d).length : Nat) : Int) := by split <;> omega
  have htk : List.take (Int.toNat (((dataE v code (pb v A B hop proto id off more keep d) (c / 256) (c % 256)).length : Nat) : Int) - 8) (List.drop 8 (dataE v code (pb v A B hop proto id off more keep d) (c / 256) (c % 256))) = (pb v A B hop proto id off more keep d).take 48 := by
   rw [hdrop, Int.toNat_natCast]
   exact List.take_of_length_le (by omega)
  have hll : (dataE v code (pb v A B hop proto id off more keep d) (c / 256) (c % 256)).length = (dataE v code (pb v A B hop proto id off more keep d) 0 0).length := rfl
  have hcc2 : c / 256 * 256 + c % 256 = c := by omega
  rw [hcc2] at hsum
  rw [if_pos (by rfl), if_neg (by simp), if_neg (by simp), if_pos (by simp), if_pos (ff (by omega)), if_pos (by rfl), if_pos (by rfl), if_pos (by omega), if_pos (Int.le_refl _), if_pos hmn.1, if_pos hmn.2, min48, htk, if_neg (by simp)]
  rcases hv with ⟨h4, hA, _⟩ | ⟨h6, hA, _⟩
  ·rw [if_pos (tb h4)]
   rw [if_pos h4] at hcE
   have hz := fold_zero2 hipos
   have : csum (dataE v code (pb v A B hop proto id off more keep d) (c / 256) (c % 256)) = 0 := by
    unfold csum at hcE ⊢
    rw [hsum, hcE, hz]; rfl
   rw [this]; rfl
  ·rw [if_neg (fb (by omega)), hps h6]
   rw [if_neg (by omega)] at hcE
   have hS : (src own v).size = 16 := by rw [hsz, if_neg (by omega)]
   have hph := phead_len (src own v) A (dataE v code (pb v A B hop proto id off more keep d) 0 0).length
   have hphb := phead_bytes (src own v) A (dataE v code (pb v A B hop proto id off more keep d) 0 0).length (by omega)
   have hpr := (isum_range _ hphb).1
   rw [hll]
   have : csum (phead (src own v) A (dataE v code (pb v A B hop proto id off more keep d) 0 0).length ++ dataE v code (pb v A B hop proto id off more keep d) (c / 256) (c % 256)) = 0 := by
    unfold csum at hcE ⊢
    rw [isum_app 20 _ _ (by omega)] at hcE ⊢
    have hz := fold_zero2 (n := isum (phead (src own v) A (dataE v code (pb v A B hop proto id off more keep d) 0 0).length) + isum (dataE v code (pb v A B hop proto id off more keep d) 0 0)) (by omega)
    rw [hsum, ← Int.add_assoc]
    rw [← hcE] at hz
    rw [hz]; rfl
   rw [this]; rfl
end Go.Proofs.Ytepfpdaehcmblaa.Pure
