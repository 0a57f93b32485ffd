/- The program's QueuesOK answers what the reference's answers, for all queues; no condition. -/
import Derived.Test.YtildepkogbcdpaaSaysFnExactQueuesOK
namespace Go.Proofs.Ytildepkogbcdpaa.Pure
open Go Go.B Go.Proofs.Ytildepkogbcdpaa.B Go.Proofs.Ytildepkogbcdpaa.SaysFnExactQueuesOK
set_option linter.unusedVariables false
set_option linter.unusedSimpArgs false
theorem w64 {n : Int} (h0 : -9223372036854775808 ≤ n) (h1 : n ≤ 9223372036854775807) : IntKind.i64.wrap n = n := by
  simp only [IntKind.wrap, IntKind.bits, IntKind.signed]
  have h2 : (2 : Int) ^ (64 - 1) = 9223372036854775808 := by decide
  have h3 : (2 : Int) ^ 64 = 18446744073709551616 := by decide
  simp only [Bool.true_and, decide_eq_true_eq, h2, h3]
  split <;> omega
theorem gdn {α : Type} (l : List α) (i : Nat) (d : α) (h : i < l.length) : List.getD l i d = l[i] := by
  simp [List.getD_eq_getElem?_getD, List.getElem?_eq_getElem h]
theorem gd {α : Type} (l : List α) (i : Nat) (d : α) (h : i < l.length) : List.getD l (Int.toNat (i : Int)) d = l[i] := by
  simp [List.getD_eq_getElem?_getD, List.getElem?_eq_getElem h]
theorem wsucc {i n : Nat} (h : i < n) (hn : n ≤ 1048576) : IntKind.i64.wrap ((i : Int) + 1) = ((i + 1 : Nat) : Int) := by rw [w64 (by omega) (by omega)]; omega
theorem tb {c : Prop} [Decidable c] (h : c) : decide c = true := decide_eq_true h
theorem fb {c : Prop} [Decidable c] (h : ¬ c) : ¬ decide c = true := by simpa using h
theorem ff {c : Prop} [Decidable c] (h : ¬ c) : decide c = false := by simpa using h
theorem nf {c : Prop} [Decidable c] (h : c) : ¬ decide c = false := by simpa using h
/-- A list's copy, item by item. -/
theorem take_set {α : Type} {acc l : List α} {i : Nat} {x : α} (hi : i < acc.length) (hl : i < l.length) (h : acc.take i = l.take i) (hx : x = l[i]) : (acc.set i x).take (i + 1) = l.take (i + 1) := by
  subst hx
  rw [List.take_succ_eq_append_getElem (by simpa using hi), List.take_succ_eq_append_getElem hl]
  simp [List.take_set_of_le, h]
theorem take_all {α : Type} {acc l : List α} {i : Nat} (h1 : acc.length = l.length) (h2 : acc.take i = l.take i) (h3 : l.length ≤ i) : acc = l := by
  rwa [List.take_of_length_le (by omega), List.take_of_length_le (by omega)] at h2
theorem spec_in (k : Nat) (a b c : Int) : f86 k a b c = some (decide (b ≤ a ∧ a ≤ c)) := by
  simp only [f86, f86.step]
  split <;> simp at * <;> omega
theorem impl_in (k : Nat) (a b c : Int) : f83 k a b c = some (decide (b ≤ a ∧ a ≤ c)) := by
  simp only [f83, f83.step]
  split <;> simp at * <;> omega
/-! ### sizes -/
def convI (x : S242) : S131 := ⟨x.f0, x.f1⟩
def convC (x : S189) : S123 := ⟨x.f0, x.f1, x.f2.map convI, x.f3, x.f4, x.f5⟩
theorem szItem (k : Nat) (l : List S242) (a : Int) (h : l.length ≤ maxLen) (a0 : 0 ≤ a) (a1 : a ≤ 1048576) : f184 k l a = some (if a < l.length then -1 else a - l.length) := by
  unfold maxLen at h
  simp only [f184, f184.step]
  rw [w64 (by omega) (by omega)]
  by_cases c : a < l.length
  · rw [if_pos (tb (by omega)), if_pos c]
  · rw [if_neg (fb (by omega)), if_neg c]
theorem szInt (k : Nat) (l : List Int) (a : Int) (h : l.length ≤ maxLen) (a0 : 0 ≤ a) (a1 : a ≤ 1048576) : f97 k l a = some (if a < l.length then -1 else a - l.length) := by
  unfold maxLen at h
  simp only [f97, f97.step]
  rw [w64 (by omega) (by omega)]
  by_cases c : a < l.length
  · rw [if_pos (tb (by omega)), if_pos c]
  · rw [if_neg (fb (by omega)), if_neg c]
theorem szClass (k : Nat) (x : S189) (a : Int) (h : x.f2.length ≤ maxLen) (a0 : 0 ≤ a) (a1 : a ≤ 1048576) : f153 k x.f0 x.f1 x.f2 x.f3 x.f4 x.f5 a = some (if a < x.f2.length then -1 else a - x.f2.length) := by
  simp only [f153, f153.step, szItem k x.f2 a h a0 a1, Option.bind_some]
  by_cases c : a < x.f2.length
  · simp only [if_pos c]; rfl
  · simp only [if_neg c]; rw [if_neg (fb (by omega))]
theorem sz_loop (k : Nat) (l : List S189) (hk : ∀ x ∈ l, x.f2.length ≤ maxLen) (hl : l.length ≤ 1048576) : ∀ (d i j : Nat) (a : Int), i + d = l.length → d < j → 0 ≤ a → a ≤ 1048576 →
    ∃ r, f96.l5 k j l a i = some r ∧ ((∃ p : Int × Int, r = .inl p ∧ p.2 = -1) ∨ ∃ b, r = .inr b ∧ 0 ≤ b ∧ b ≤ 1048576 ∧ ∀ x ∈ l.drop i, x.f2.length ≤ 1048576) := by
  intro d
  induction d with
  | zero =>
    intro i j a h hj a0 a1
    obtain ⟨j, rfl⟩ : ∃ j', j = j' + 1 := ⟨j - 1, by omega⟩
    refine ⟨.inr a, ?_, .inr ⟨a, rfl, a0, a1, ?_⟩⟩
    · simp only [f96.l5, f96.l5.step]
      rw [if_neg (fb (by omega))]
    · rw [List.drop_eq_nil_of_le (by omega)]
      intro x hx
      simp at hx
  | succ d ih =>
    intro i j a h hj a0 a1
    obtain ⟨j, rfl⟩ : ∃ j', j = j' + 1 := ⟨j - 1, by omega⟩
    have hi : i < l.length := by omega
    simp only [f96.l5, f96.l5.step, gd l i _ hi, wsucc hi hl, szClass k l[i] a (hk _ (List.getElem_mem hi)) a0 a1, Option.bind_some]
    rw [if_pos (tb (by omega)), if_pos (by omega), if_pos (by omega)]
    by_cases c : a < l[i].f2.length
    · rw [if_pos c]
      exact ⟨.inl (-1, -1), rfl, .inl ⟨_, rfl, rfl⟩⟩
    · rw [if_neg c, if_neg (fb (by omega))]
      obtain ⟨r, g, hg⟩ := ih (i + 1) j (a - l[i].f2.length) (by omega) (by omega) (by omega) (by omega)
      refine ⟨r, g, hg.imp_right ?_⟩
      rintro ⟨b, rfl, b0, b1, b2⟩
      refine ⟨b, rfl, b0, b1, ?_⟩
      rw [List.drop_eq_getElem_cons hi]
      intro x hx
      rcases List.mem_cons.mp hx with rfl | hx
      · omega
      · exact b2 x hx
theorem szQueues {k : Nat} (hK : 2097152 ≤ k) (l : List S189) (t : List Int) (f : Bool) (hk : ∀ x ∈ l, x.f2.length ≤ maxLen) (hl : l.length ≤ maxLen) (ht : t.length ≤ maxLen) :
    ∃ r, f37 k l t f 1048576 = some r ∧ (r < 0 ∨ (l.length ≤ 1048576 ∧ ∀ x ∈ l, x.f2.length ≤ 1048576) ∧ t.length ≤ 1048576) := by
  have hl' := hl
  unfold maxLen at hl'
  simp only [f37, f37.step, f96, f96.step]
  rw [w64 (by omega) (by omega)]
  by_cases c : (1048576 : Int) - (l.length : Int) < 0
  · rw [if_pos (tb c)]
    exact ⟨-1, rfl, .inl (by omega)⟩
  · rw [if_neg (fb c)]
    obtain ⟨r, g, hg⟩ := sz_loop k l hk (by omega) l.length 0 k ((1048576 : Int) - (l.length : Int)) (by omega) (by omega) (by omega) (by omega)
    rw [show f96.l5 k k l ((1048576 : Int) - (l.length : Int)) 0 = some r from g]
    rcases hg with ⟨p, rfl, hp⟩ | ⟨b, rfl, b0, b1, b2⟩
    · simp only [Option.bind_some, Sum.elim_inl, hp]
      exact ⟨-1, rfl, .inl (by omega)⟩
    · simp only [Option.bind_some, Sum.elim_inr, szInt k t b ht b0 b1]
      rw [if_neg (fb (by omega))]
      by_cases c : b < t.length
      · rw [if_pos c]
        exact ⟨-1, rfl, .inl (by omega)⟩
      · rw [if_neg c, if_neg (fb (by omega))]
        exact ⟨_, rfl, .inr ⟨⟨by omega, by simpa using b2⟩, by omega⟩⟩
/-! ### copies -/
theorem toInt_loop {k : Nat} (hK : 2097152 ≤ k) (l : List Int) (hl : l.length ≤ 1048576) : ∀ (d i j : Nat) (acc : List Int), i + d = l.length → d < j → acc.length = l.length → acc.take i = l.take i → f22.l3 k j l i acc = some l := by
  intro d
  induction d with
  | zero =>
    intro i j acc h hj h1 h2
    obtain ⟨j, rfl⟩ : ∃ j', j = j' + 1 := ⟨j - 1, by omega⟩
    simp only [f22.l3, f22.l3.step]
    rw [if_neg (fb (by omega)), take_all h1 h2 (by omega)]
  | succ d ih =>
    intro i j acc h hj h1 h2
    obtain ⟨j, rfl⟩ : ∃ j', j = j' + 1 := ⟨j - 1, by omega⟩
    have hi : i < l.length := by omega
    simp only [f22.l3, f22.l3.step, gd l i _ hi, wsucc hi hl]
    rw [if_pos (tb (by omega)), if_pos (by omega), if_pos (by omega), if_pos (by omega), if_pos (by omega)]
    exact ih (i + 1) j _ (by omega) (by omega) (by simp [h1]) (by rw [Int.toNat_natCast]; exact take_set (by omega) hi h2 rfl)
theorem toInt {k : Nat} (hK : 2097152 ≤ k) (l : List Int) (hl : l.length ≤ 1048576) : f22 k l = some l := by
  simp only [f22, f22.step]
  rw [if_pos (by omega), if_pos (by unfold maxN; omega), show f22.l3 k k l 0 _ = some l from toInt_loop hK l hl l.length 0 k _ (by omega) (by omega) (by simp) (by simp)]
  rfl
theorem toItem_loop {k : Nat} (hK : 2097152 ≤ k) (l : List S242) (hl : l.length ≤ 1048576) : ∀ (d i j : Nat) (acc : List S131), i + d = l.length → d < j → acc.length = l.length → acc.take i = (l.map convI).take i → f185.l3 k j l i acc = some (l.map convI) := by
  intro d
  induction d with
  | zero =>
    intro i j acc h hj h1 h2
    obtain ⟨j, rfl⟩ : ∃ j', j = j' + 1 := ⟨j - 1, by omega⟩
    simp only [f185.l3, f185.l3.step]
    rw [if_neg (fb (by omega)), take_all (by simpa using h1) h2 (by simp; omega)]
  | succ d ih =>
    intro i j acc h hj h1 h2
    obtain ⟨j, rfl⟩ : ∃ j', j = j' + 1 := ⟨j - 1, by omega⟩
    have hi : i < l.length := by omega
    simp only [f185.l3, f185.l3.step, gd l i _ hi, wsucc hi hl, f203, f203.step, Option.bind_some]
    rw [if_pos (tb (by omega)), if_pos (by omega), if_pos (by omega), if_pos (by omega), if_pos (by omega)]
    exact ih (i + 1) j _ (by omega) (by omega) (by simp [h1]) (by rw [Int.toNat_natCast]; exact take_set (by omega) (by simpa using hi) h2 (by simp [convI]))
theorem toItem {k : Nat} (hK : 2097152 ≤ k) (l : List S242) (hl : l.length ≤ 1048576) : f185 k l = some (l.map convI) := by
  simp only [f185, f185.step]
  rw [if_pos (by omega), if_pos (by unfold maxN; omega), show f185.l3 k k l 0 _ = _ from toItem_loop hK l hl l.length 0 k _ (by omega) (by omega) (by simp) (by simp)]
  rfl
theorem toClass_loop {k : Nat} (hK : 2097152 ≤ k) (l : List S189) (hl : l.length ≤ 1048576) (hk : ∀ x ∈ l, x.f2.length ≤ 1048576) : ∀ (d i j : Nat) (acc : List S123), i + d = l.length → d < j → acc.length = l.length → acc.take i = (l.map convC).take i → f100.l3 k j l i acc = some (l.map convC) := by
  intro d
  induction d with
  | zero =>
    intro i j acc h hj h1 h2
    obtain ⟨j, rfl⟩ : ∃ j', j = j' + 1 := ⟨j - 1, by omega⟩
    simp only [f100.l3, f100.l3.step]
    rw [if_neg (fb (by omega)), take_all (by simpa using h1) h2 (by simp; omega)]
  | succ d ih =>
    intro i j acc h hj h1 h2
    obtain ⟨j, rfl⟩ : ∃ j', j = j' + 1 := ⟨j - 1, by omega⟩
    have hi : i < l.length := by omega
    simp only [f100.l3, f100.l3.step, gd l i _ hi, wsucc hi hl, f154, f154.step, toItem hK l[i].f2 (hk _ (List.getElem_mem hi)), Option.bind_some]
    rw [if_pos (tb (by omega)), if_pos (by omega), if_pos (by omega), if_pos (by omega), if_pos (by omega)]
    exact ih (i + 1) j _ (by omega) (by omega) (by simp [h1]) (by rw [Int.toNat_natCast]; exact take_set (by omega) (by simpa using hi) h2 (by simp [convC]))
theorem toQueues {k : Nat} (hK : 2097152 ≤ k) (l : List S189) (t : List Int) (f : Bool) (hl : l.length ≤ 1048576) (hk : ∀ x ∈ l, x.f2.length ≤ 1048576) (ht : t.length ≤ 1048576) : f39 k l t f = some (l.map convC, t, f) := by
  simp only [f39, f39.step, f100, f100.step, toInt hK t ht]
  rw [if_pos (by omega), if_pos (by unfold maxN; omega), show f100.l3 k k l 0 _ = _ from toClass_loop hK l hl hk l.length 0 k _ (by omega) (by omega) (by simp) (by simp)]
  rfl
/-! ### comparing -/
theorem eqInt_loop {k : Nat} (hK : 2097152 ≤ k) (l : List Int) (hl : l.length ≤ 1048576) : ∀ (d i j : Nat), i + d = l.length → d < j → f25.l4 k j l l i = some (.inr ()) := by
  intro d
  induction d with
  | zero =>
    intro i j h hj
    obtain ⟨j, rfl⟩ : ∃ j', j = j' + 1 := ⟨j - 1, by omega⟩
    simp only [f25.l4, f25.l4.step]
    rw [if_neg (fb (by omega))]
  | succ d ih =>
    intro i j h hj
    obtain ⟨j, rfl⟩ : ∃ j', j = j' + 1 := ⟨j - 1, by omega⟩
    have hi : i < l.length := by omega
    simp only [f25.l4, f25.l4.step, gd l i _ hi, wsucc hi hl]
    rw [if_pos (tb (by omega)), if_pos (by omega), if_pos (by omega), if_pos (by omega), if_pos (by omega), if_neg (by simp)]
    exact ih (i + 1) j (by omega) (by omega)
theorem eqItem_loop {k : Nat} (hK : 2097152 ≤ k) (l : List S131) (hl : l.length ≤ 1048576) : ∀ (d i j : Nat), i + d = l.length → d < j → f183.l4 k j l l i = some (.inr ()) := by
  intro d
  induction d with
  | zero =>
    intro i j h hj
    obtain ⟨j, rfl⟩ : ∃ j', j = j' + 1 := ⟨j - 1, by omega⟩
    simp only [f183.l4, f183.l4.step]
    rw [if_neg (fb (by omega))]
  | succ d ih =>
    intro i j h hj
    obtain ⟨j, rfl⟩ : ∃ j', j = j' + 1 := ⟨j - 1, by omega⟩
    have hi : i < l.length := by omega
    simp only [f183.l4, f183.l4.step, gd l i _ hi, wsucc hi hl, f202, f202.step]
    rw [if_pos (tb (by omega)), if_pos (by omega), if_pos (by omega), if_pos (by omega), if_pos (by omega)]
    simpa using ih (i + 1) j (by omega) (by omega)
theorem eqItem {k : Nat} (hK : 2097152 ≤ k) (l : List S131) (hl : l.length ≤ 1048576) : f183 k l l = some true := by
  simp only [f183, f183.step]
  rw [if_neg (by simp), show f183.l4 k k l l 0 = _ from eqItem_loop hK l hl l.length 0 k (by omega) (by omega)]
  rfl
theorem eqClass_loop {k : Nat} (hK : 2097152 ≤ k) (l : List S123) (hl : l.length ≤ 1048576) (hk : ∀ x ∈ l, x.f2.length ≤ 1048576) : ∀ (d i j : Nat), i + d = l.length → d < j → f88.l4 k j l l i = some (.inr ()) := by
  intro d
  induction d with
  | zero =>
    intro i j h hj
    obtain ⟨j, rfl⟩ : ∃ j', j = j' + 1 := ⟨j - 1, by omega⟩
    simp only [f88.l4, f88.l4.step]
    rw [if_neg (fb (by omega))]
  | succ d ih =>
    intro i j h hj
    obtain ⟨j, rfl⟩ : ∃ j', j = j' + 1 := ⟨j - 1, by omega⟩
    have hi : i < l.length := by omega
    simp only [f88.l4, f88.l4.step, gd l i _ hi, wsucc hi hl, f147, f147.step, eqItem hK l[i].f2 (hk _ (List.getElem_mem hi))]
    rw [if_pos (tb (by omega)), if_pos (by omega), if_pos (by omega), if_pos (by omega), if_pos (by omega)]
    simpa using ih (i + 1) j (by omega) (by omega)
theorem eqQueues {k : Nat} (hK : 2097152 ≤ k) (l : List S123) (t : List Int) (f : Bool) (hl : l.length ≤ 1048576) (hk : ∀ x ∈ l, x.f2.length ≤ 1048576) (ht : t.length ≤ 1048576) : f24 k l t f l t f = some true := by
  simp only [f24, f24.step, f88, f88.step, f25, f25.step]
  rw [if_neg (by simp), show f88.l4 k k l l 0 = _ from eqClass_loop hK l hl hk l.length 0 k (by omega) (by omega)]
  simp only [Option.bind_some, Sum.elim_inr]
  rw [if_neg (by simp), if_neg (by simp), show f25.l4 k k t t 0 = _ from eqInt_loop hK t ht t.length 0 k (by omega) (by omega)]
  simp
/-! ### one class -/
theorem bp {c : Prop} [Decidable c] (h : c) : (!decide c) = false := by simp [h]
theorem bn {c : Prop} [Decidable c] (h : ¬ c) : ¬ (!decide c) = false := by simp [h]
theorem bnt {c : Prop} [Decidable c] (h : ¬ c) : (!decide c) = true := by simp [h]
theorem bpt {c : Prop} [Decidable c] (h : c) : ¬ (!decide c) = true := by simp [h]
/-- The sizes of the items from p on. -/
def itemsOK (l : List S131) (p : Nat) : Prop := ∀ y ∈ l.drop p, 1 ≤ y.f1 ∧ y.f1 ≤ 1500
theorem itemsOK_succ {l : List S131} {p : Nat} (h : p < l.length) : itemsOK l p ↔ (1 ≤ l[p].f1 ∧ l[p].f1 ≤ 1500) ∧ itemsOK l (p + 1) := by
  simp only [itemsOK]
  rw [List.drop_eq_getElem_cons h]
  simp only [List.forall_mem_cons]
theorem itemsOK_end {l : List S131} {p : Nat} (h : l.length ≤ p) : itemsOK l p := by
  intro y hy
  rw [List.drop_eq_nil_of_le h] at hy
  simp at hy
theorem spec_items {k : Nat} (hK : 2097152 ≤ k) (i : Int) (cs : List S123) (turn : List Int) (fresh : Bool) (due : List Bool) (f0 f1 f3 f4 f5 : Int) (l : List S131) (hl : l.length ≤ 1048576) : ∀ (d p j : Nat), p + d = l.length → d < j →
    (itemsOK l p → f38.l17 k j i p cs turn fresh due f0 f1 l f3 f4 f5 = some (.inr (i, cs, turn, fresh, due, f0, f1, l, f3, f4, f5))) ∧ (¬ itemsOK l p → ∃ q, f38.l17 k j i p cs turn fresh due f0 f1 l f3 f4 f5 = some (.inl q) ∧ q.1 = false) := by
  intro d
  induction d with
  | zero =>
    intro p j h hj
    obtain ⟨j, rfl⟩ : ∃ j', j = j' + 1 := ⟨j - 1, by omega⟩
    refine ⟨fun _ => ?_, fun hn => absurd (itemsOK_end (by omega)) hn⟩
    simp only [f38.l17, f38.l17.step]
    rw [if_neg (fb (by omega))]
  | succ d ih =>
    intro p j h hj
    obtain ⟨j, rfl⟩ : ∃ j', j = j' + 1 := ⟨j - 1, by omega⟩
    have hp : p < l.length := by omega
    simp only [f38.l17, f38.l17.step, gd l p _ hp, wsucc hp hl, spec_in, Option.bind_some]
    rw [if_pos (tb (by omega)), if_pos (by omega), if_pos (by omega), itemsOK_succ hp]
    by_cases c : 1 ≤ l[p].f1 ∧ l[p].f1 ≤ 1500
    · rw [if_neg (bpt c)]
      obtain ⟨h1, h2⟩ := ih (p + 1) j (by omega) (by omega)
      exact ⟨fun h => h1 h.2, fun h => h2 fun h' => h ⟨c, h'⟩⟩
    · rw [if_pos (bnt c)]
      exact ⟨fun h => absurd h.1 c, fun _ => ⟨_, rfl, rfl⟩⟩
theorem impl_items {k : Nat} (hK : 2097152 ≤ k) (top f0 f1 f3 f4 f5 : Int) (l : List S131) (hl : l.length ≤ 1048576) : ∀ (d p j : Nat), p + d = l.length → d < j →
    (itemsOK l p → f101.l4 k j top l l.length p f0 f1 l f3 f4 f5 = some (.inr (top, f0, f1, l, f3, f4, f5))) ∧ (¬ itemsOK l p → ∃ q, f101.l4 k j top l l.length p f0 f1 l f3 f4 f5 = some (.inl q) ∧ q.2.1 = false) := by
  intro d
  induction d with
  | zero =>
    intro p j h hj
    obtain ⟨j, rfl⟩ : ∃ j', j = j' + 1 := ⟨j - 1, by omega⟩
    refine ⟨fun _ => ?_, fun hn => absurd (itemsOK_end (by omega)) hn⟩
    simp only [f101.l4, f101.l4.step]
    rw [if_neg (fb (by omega))]
  | succ d ih =>
    intro p j h hj
    obtain ⟨j, rfl⟩ : ∃ j', j = j' + 1 := ⟨j - 1, by omega⟩
    have hp : p < l.length := by omega
    simp only [f101.l4, f101.l4.step, gd l p _ hp, wsucc hp hl, impl_in, Option.bind_some]
    rw [if_pos (tb (by omega)), if_pos (by omega), if_pos (by omega), itemsOK_succ hp]
    by_cases c : 1 ≤ l[p].f1 ∧ l[p].f1 ≤ 1500
    · rw [if_neg (bpt c)]
      obtain ⟨h1, h2⟩ := ih (p + 1) j (by omega) (by omega)
      exact ⟨fun h => h1 h.2, fun h => h2 fun h' => h ⟨c, h'⟩⟩
    · rw [if_pos (bnt c)]
      exact ⟨fun h => absurd h.1 c, fun _ => ⟨_, rfl, rfl⟩⟩
theorem bytes_loop {k : Nat} (hK : 2097152 ≤ k) (f0 f1 f3 f4 f5 : Int) (l : List S131) (hl : l.length ≤ 1048576) : ∀ (d p j : Nat) (s : Int), p + d = l.length → d < j → ∃ r, f98.l3 k j s p f0 f1 l f3 f4 f5 = some r ∧ f155.l3 k j s l l.length p = some r := by
  intro d
  induction d with
  | zero =>
    intro p j s h hj
    obtain ⟨j, rfl⟩ : ∃ j', j = j' + 1 := ⟨j - 1, by omega⟩
    simp only [f98.l3, f98.l3.step, f155.l3, f155.l3.step]
    refine ⟨s, ?_, ?_⟩ <;> rw [if_neg (fb (by omega))]
  | succ d ih =>
    intro p j s h hj
    obtain ⟨j, rfl⟩ : ∃ j', j = j' + 1 := ⟨j - 1, by omega⟩
    have hp : p < l.length := by omega
    simp only [f98.l3, f98.l3.step, f155.l3, f155.l3.step, gd l p _ hp, wsucc hp hl]
    obtain ⟨r, e1, e2⟩ := ih (p + 1) j (IntKind.i64.wrap (s + l[p].f1)) (by omega) (by omega)
    refine ⟨r, ?_, ?_⟩ <;> rw [if_pos (tb (by omega)), if_pos (by omega), if_pos (by omega)] <;> assumption
theorem bytes {k : Nat} (hK : 2097152 ≤ k) (f0 f1 f3 f4 f5 : Int) (l : List S131) (hl : l.length ≤ 1048576) : ∃ r, f98 k f0 f1 l f3 f4 f5 = some r ∧ f155 k l = some r := by
  obtain ⟨r, h1, h2⟩ := bytes_loop hK f0 f1 f3 f4 f5 l hl l.length 0 k 0 (by omega) (by omega)
  refine ⟨r, ?_, ?_⟩
  · simp only [f98, f98.step]
    rw [show f98.l3 k k 0 0 f0 f1 l f3 f4 f5 = some r from h1]; rfl
  · simp only [f155, f155.step]
    rw [show f155.l3 k k 0 l l.length 0 = some r from h2]; rfl
/-- All that is asked of one class, but the mark. -/
structure clP (x : S123) (s top : Int) : Prop where
  q : 1500 ≤ x.f0 ∧ x.f0 ≤ 3000
  l : 0 ≤ x.f1 ∧ x.f1 ≤ 100000
  n : ¬ (x.f2.length : Int) > 40
  a : 0 ≤ x.f4 ∧ x.f4 ≤ 1000000000
  b : 0 ≤ x.f5 ∧ x.f5 ≤ 1000000000
  i : itemsOK x.f2 0
  s : ¬ s > x.f1
  z : (x.f2.length : Int) = 0 → x.f3 = 0
  c : (x.f2.length : Int) ≠ 0 → 0 ≤ x.f3 ∧ x.f3 ≤ top
theorem impl_class {k : Nat} (hK : 2097152 ≤ k) (x : S123) (hl : x.f2.length ≤ 1048576) {s : Int} (hs : f155 k x.f2 = some s) (top : Int) :
    (clP x s top → f101 k x.f0 x.f1 x.f2 x.f3 x.f4 x.f5 top = some true) ∧ (¬ clP x s top → f101 k x.f0 x.f1 x.f2 x.f3 x.f4 x.f5 top = some false) := by
  obtain ⟨h1, h2⟩ := impl_items hK top x.f0 x.f1 x.f3 x.f4 x.f5 x.f2 hl x.f2.length 0 k (by omega) (by omega)
  simp only [f101, f101.step, impl_in, Option.bind_some]
  by_cases c1 : 1500 ≤ x.f0 ∧ x.f0 ≤ 3000
  case neg =>
    rw [if_neg (bn c1)]; exact ⟨fun h => absurd h.q c1, fun _ => rfl⟩
  rw [if_pos (bp c1)]
  by_cases c2 : 0 ≤ x.f1 ∧ x.f1 ≤ 100000
  case neg =>
    rw [if_neg (bn c2)]; exact ⟨fun h => absurd h.l c2, fun _ => rfl⟩
  rw [if_pos (bp c2)]
  by_cases c3 : (x.f2.length : Int) > 40
  · rw [if_pos (tb c3)]; exact ⟨fun h => absurd c3 h.n, fun _ => rfl⟩
  rw [if_neg (fb c3)]
  by_cases c4 : itemsOK x.f2 0
  case neg =>
    obtain ⟨q, hq, hq1⟩ := h2 c4
    rw [show f101.l4 k k top x.f2 x.f2.length 0 x.f0 x.f1 x.f2 x.f3 x.f4 x.f5 = _ from hq]
    simp only [Option.bind_some, Sum.elim_inl, hq1]
    exact ⟨fun h => absurd h.i c4, fun _ => by first | rfl | trivial⟩
  rw [show f101.l4 k k top x.f2 x.f2.length 0 x.f0 x.f1 x.f2 x.f3 x.f4 x.f5 = _ from h1 c4]
  simp only [Option.bind_some, Sum.elim_inr, hs]
  by_cases c5 : s > x.f1
  · rw [if_neg (nf c5)]; exact ⟨fun h => absurd c5 h.s, fun _ => rfl⟩
  rw [if_pos (ff c5)]
  by_cases c6 : 0 ≤ x.f4 ∧ x.f4 ≤ 1000000000
  case neg =>
    rw [if_neg (bn c6)]; exact ⟨fun h => absurd h.a c6, fun _ => rfl⟩
  rw [if_pos (bp c6)]
  by_cases c7 : 0 ≤ x.f5 ∧ x.f5 ≤ 1000000000
  case neg =>
    rw [if_pos (bnt c7)]; exact ⟨fun h => absurd h.b c7, fun _ => rfl⟩
  rw [if_neg (bpt c7)]
  by_cases c8 : (x.f2.length : Int) = 0
  · rw [if_pos (tb c8)]
    by_cases c9 : x.f3 = 0
    · exact ⟨fun _ => by rw [tb c9], fun h => absurd ⟨c1, c2, c3, c6, c7, c4, c5, fun _ => c9, fun h => absurd c8 h⟩ h⟩
    · exact ⟨fun h => absurd (h.z c8) c9, fun _ => by rw [ff c9]⟩
  · rw [if_neg (fb c8)]
    by_cases c9 : 0 ≤ x.f3 ∧ x.f3 ≤ top
    · exact ⟨fun _ => by rw [tb c9], fun h => absurd ⟨c1, c2, c3, c6, c7, c4, c5, fun h => absurd h c8, fun _ => c9⟩ h⟩
    · exact ⟨fun h => absurd (h.c c8) c9, fun _ => by rw [ff c9]⟩
/-- The most credit of class i. -/
def topOf (x : S123) (turn : List Int) (fresh : Bool) (i : Nat) : Int := if fresh = true ∧ turn.getD 0 0 = (i : Int) then 1499 + x.f0 else 1499
theorem spec_class {k : Nat} (hK : 2097152 ≤ k) (cs : List S123) (turn : List Int) (fresh : Bool) (due : List Bool) (i j : Nat) (hi : i < cs.length) (hn : cs.length ≤ 5) (hd : due.length = cs.length) (hf : fresh = true → 0 < turn.length)
    (hl : cs[i].f2.length ≤ 1048576) {s : Int} (hs : f155 k cs[i].f2 = some s) :
    ((due.getD i false = decide ((cs[i].f2.length : Int) > 0)) ∧ clP cs[i] s (topOf cs[i] turn fresh i) → f38.l11 k (j + 1) i cs turn fresh due = f38.l11 k j ((i + 1 : Nat) : Int) cs turn fresh due) ∧
    (¬ ((due.getD i false = decide ((cs[i].f2.length : Int) > 0)) ∧ clP cs[i] s (topOf cs[i] turn fresh i)) → f38.l11 k (j + 1) i cs turn fresh due = some (.inl false)) := by
  generalize hx : cs[i] = x at hl hs
  obtain ⟨h1, h2⟩ := spec_items hK (i : Int) cs turn fresh due x.f0 x.f1 x.f3 x.f4 x.f5 x.f2 hl x.f2.length 0 k (by omega) (by omega)
  obtain ⟨s', g1, g2⟩ := bytes hK x.f0 x.f1 x.f3 x.f4 x.f5 x.f2 hl
  rw [hs] at g2
  cases g2
  have hw : IntKind.i64.wrap ((i : Int) + 1) = ((i + 1 : Nat) : Int) := wsucc (n := 5) (by omega) (by omega)
  simp only [f38.l11, f38.l11.step, gdn cs i _ hi, hx, hw, spec_in, Option.bind_some, Int.toNat_natCast]
  rw [if_pos (tb (by omega)), if_pos (by omega), if_pos (by omega)]
  by_cases c1 : 1500 ≤ x.f0 ∧ x.f0 ≤ 3000
  case neg =>
    rw [if_neg (bn c1)]; exact ⟨fun h => absurd h.2.q c1, fun _ => rfl⟩
  rw [if_pos (bp c1)]
  by_cases c2 : 0 ≤ x.f1 ∧ x.f1 ≤ 100000
  case neg =>
    rw [if_neg (bn c2)]; exact ⟨fun h => absurd h.2.l c2, fun _ => rfl⟩
  rw [if_pos (bp c2)]
  by_cases c3 : (x.f2.length : Int) > 40
  · rw [if_neg (nf c3)]; exact ⟨fun h => absurd c3 h.2.n, fun _ => rfl⟩
  rw [if_pos (ff c3), if_pos (by omega), if_pos (by omega)]
  by_cases c0 : due.getD i false = decide ((x.f2.length : Int) > 0)
  case neg =>
    rw [if_neg (by simpa using c0)]; exact ⟨fun h => absurd h.1 c0, fun _ => rfl⟩
  rw [if_pos (by simpa using c0)]
  by_cases c6 : 0 ≤ x.f4 ∧ x.f4 ≤ 1000000000
  case neg =>
    rw [if_neg (bn c6)]; exact ⟨fun h => absurd h.2.a c6, fun _ => rfl⟩
  rw [if_pos (bp c6)]
  by_cases c7 : 0 ≤ x.f5 ∧ x.f5 ≤ 1000000000
  case neg =>
    rw [if_pos (bnt c7)]; exact ⟨fun h => absurd h.2.b c7, fun _ => rfl⟩
  rw [if_neg (bpt c7)]
  by_cases c4 : itemsOK x.f2 0
  case neg =>
    obtain ⟨q, hq, hq1⟩ := h2 c4
    rw [show f38.l17 k k i 0 cs turn fresh due x.f0 x.f1 x.f2 x.f3 x.f4 x.f5 = _ from hq]
    simp only [Option.bind_some, Sum.elim_inl, hq1]
    exact ⟨fun h => absurd h.2.i c4, fun _ => by first | rfl | trivial⟩
  rw [show f38.l17 k k i 0 cs turn fresh due x.f0 x.f1 x.f2 x.f3 x.f4 x.f5 = _ from h1 c4]
  simp only [Option.bind_some, Sum.elim_inr, g1]
  by_cases c5 : s > x.f1
  · rw [if_neg (nf c5)]; exact ⟨fun h => absurd c5 h.2.s, fun _ => rfl⟩
  rw [if_pos (ff c5)]
  have htop : topOf x turn fresh i ≤ 4499 ∧ 1499 ≤ topOf x turn fresh i := by
    unfold topOf
    split <;> omega
  by_cases c8 : 0 ≤ x.f3 ∧ x.f3 ≤ 4500
  case neg =>
    rw [if_neg (bn c8)]
    refine ⟨fun h => absurd ?_ c8, fun _ => rfl⟩
    by_cases c9 : (x.f2.length : Int) = 0
    · have := h.2.z c9; omega
    · have := h.2.c c9; omega
  rw [if_pos (bp c8)]
  have h99 : ∀ (b : Bool) (y : Int), f99 k b y = some (if b = true then y else 0) := fun b y => by
    simp only [f99, f99.step]
    split <;> rfl
  have hwt : IntKind.i64.wrap (1499 + x.f0) = 1499 + x.f0 := w64 (by omega) (by omega)
  have hwz : IntKind.i64.wrap (1499 + 0) = 1499 := w64 (by omega) (by omega)
  -- the last look
  have tail : ∀ {A B : Option (Bool ⊕ Unit)} , B = some (.inl false) →
      (if fresh = true then (if (0 : Int) < (turn.length : Int) then (f99 k (decide (turn.getD 0 0 = (i : Int))) x.f0).bind fun t => if (decide (x.f3 > (IntKind.i64.wrap ((1499 : Int) + t)))) = true then B else A else none)
        else (f99 k false x.f0).bind fun t => if (decide (x.f3 > (IntKind.i64.wrap ((1499 : Int) + t)))) = true then B else A) = if x.f3 ≤ topOf x turn fresh i then A else some (.inl false) := fun {A B} hB => by
    subst hB
    simp only [h99, Option.bind_some]
    by_cases e1 : fresh = true
    · have := hf e1
      rw [if_pos e1, if_pos (by omega)]
      by_cases e2 : turn.getD 0 0 = (i : Int)
      · have et : topOf x turn fresh i = 1499 + x.f0 := by unfold topOf; rw [if_pos (And.intro e1 e2)]
        rw [if_pos (tb e2), hwt]
        by_cases e3 : x.f3 ≤ topOf x turn fresh i
        · rw [if_pos e3, if_neg (fb (by omega))]
        · rw [if_neg e3, if_pos (tb (by omega))]
      · have et : topOf x turn fresh i = 1499 := by unfold topOf; rw [if_neg (fun h => e2 h.2)]
        rw [if_neg (fb e2), hwz]
        by_cases e3 : x.f3 ≤ topOf x turn fresh i
        · rw [if_pos e3, if_neg (fb (by omega))]
        · rw [if_neg e3, if_pos (tb (by omega))]
    · have et : topOf x turn fresh i = 1499 := by unfold topOf; rw [if_neg (fun h => e1 h.1)]
      have e0 : ¬ false = true := by simp
      rw [if_neg e1, if_neg e0, hwz]
      by_cases e3 : x.f3 ≤ topOf x turn fresh i
      · rw [if_pos e3, if_neg (fb (by omega))]
      · rw [if_neg e3, if_pos (tb (by omega))]
  by_cases c9 : (x.f2.length : Int) = 0
  · rw [if_pos (tb c9)]
    by_cases c10 : x.f3 = 0
    · rw [if_neg (by simpa using c10), tail rfl, if_pos (by omega)]
      exact ⟨fun _ => by rw [hw], fun h => absurd ⟨c0, c1, c2, c3, c6, c7, c4, c5, fun _ => c10, fun h => absurd c9 h⟩ h⟩
    · rw [if_pos (by simpa using c10)]
      exact ⟨fun h => absurd (h.2.z c9) c10, fun _ => rfl⟩
  · rw [if_neg (fb c9), tail rfl]
    by_cases c10 : x.f3 ≤ topOf x turn fresh i
    · rw [if_pos c10]
      exact ⟨fun _ => by rw [hw], fun h => absurd ⟨c0, c1, c2, c3, c6, c7, c4, c5, fun h => absurd h c9, fun _ => ⟨c8.1, c10⟩⟩ h⟩
    · rw [if_neg c10]
      exact ⟨fun h => absurd (h.2.c c9).2 c10, fun _ => rfl⟩
theorem impl_class12 {k : Nat} (hK : 2097152 ≤ k) (cs : List S123) (turn : List Int) (fresh b0 b1 b2 b3 b4 : Bool) (i j : Nat) (hi : i < cs.length) (hn : cs.length ≤ 5) (hf : fresh = true → 0 < turn.length)
    (hl : cs[i].f2.length ≤ 1048576) {s : Int} (hs : f155 k cs[i].f2 = some s) :
    (([b0, b1, b2, b3, b4].getD i false = decide ((cs[i].f2.length : Int) > 0)) ∧ clP cs[i] s (topOf cs[i] turn fresh i) → f40.l12 k (j + 1) cs cs.length i cs turn fresh b0 b1 b2 b3 b4 = f40.l12 k j cs cs.length ((i + 1 : Nat) : Int) cs turn fresh b0 b1 b2 b3 b4) ∧
    (¬ (([b0, b1, b2, b3, b4].getD i false = decide ((cs[i].f2.length : Int) > 0)) ∧ clP cs[i] s (topOf cs[i] turn fresh i)) → f40.l12 k (j + 1) cs cs.length i cs turn fresh b0 b1 b2 b3 b4 = some (.inl false)) := by
  generalize hx : cs[i] = x at hl hs
  have hw : IntKind.i64.wrap ((i : Int) + 1) = ((i + 1 : Nat) : Int) := wsucc (n := 5) (by omega) (by omega)
  have hT : ∀ (top : Int), (clP x s top ↔ clP x s (topOf x turn fresh i)) → ∀ (A : Option (Bool ⊕ Unit)),
      (([b0, b1, b2, b3, b4].getD i false = decide ((x.f2.length : Int) > 0)) ∧ clP x s (topOf x turn fresh i) → ((f101 k x.f0 x.f1 x.f2 x.f3 x.f4 x.f5 top).bind fun t => if (!t) = false then (if (0 : Int) ≤ (i : Int) then if (i : Int) < (5 : Int) then if i < 5 then if (!([b0, b1, b2, b3, b4].getD i false == decide ((x.f2.length : Int) > 0))) = true then some (.inl false) else A else none else none else none) else some (.inl false)) = A) ∧
      (¬ (([b0, b1, b2, b3, b4].getD i false = decide ((x.f2.length : Int) > 0)) ∧ clP x s (topOf x turn fresh i)) → ((f101 k x.f0 x.f1 x.f2 x.f3 x.f4 x.f5 top).bind fun t => if (!t) = false then (if (0 : Int) ≤ (i : Int) then if (i : Int) < (5 : Int) then if i < 5 then if (!([b0, b1, b2, b3, b4].getD i false == decide ((x.f2.length : Int) > 0))) = true then some (.inl false) else A else none else none else none) else some (.inl false)) = some (.inl false)) := fun top htop A => by
    obtain ⟨h1, h2⟩ := impl_class hK x hl hs top
    by_cases c : clP x s top
    · rw [h1 c]
      simp only [Option.bind_some]
      rw [if_pos (by rfl), if_pos (by omega), if_pos (by omega), if_pos (by omega)]
      by_cases c0 : [b0, b1, b2, b3, b4].getD i false = decide ((x.f2.length : Int) > 0)
      · rw [if_neg (by simpa using c0)]
        exact ⟨fun _ => rfl, fun h => absurd ⟨c0, htop.1 c⟩ h⟩
      · rw [if_pos (by simpa using c0)]
        exact ⟨fun h => absurd h.1 c0, fun _ => rfl⟩
    · rw [h2 c]
      exact ⟨fun h => absurd (htop.2 h.2) c, fun _ => rfl⟩
  have hbad : ¬ (1500 ≤ x.f0 ∧ x.f0 ≤ 3000) → ∀ top, (clP x s top ↔ clP x s (topOf x turn fresh i)) := fun h top => ⟨fun h' => absurd h'.q h, fun h' => absurd h'.q h⟩
  simp only [f40.l12, f40.l12.step, gdn cs i _ hi, hx, hw, Int.toNat_natCast, Nat.mul_one]
  rw [if_pos (tb (by omega)), if_pos (by omega), if_pos (by omega)]
  by_cases e1 : fresh = true
  · have := hf e1
    rw [if_pos e1, if_pos (by omega)]
    by_cases e2 : turn.getD 0 0 = (i : Int)
    · rw [if_pos (tb e2)]
      refine hT _ ?_ _
      by_cases c1 : 1500 ≤ x.f0 ∧ x.f0 ≤ 3000
      · rw [w64 (by omega) (by omega), show topOf x turn fresh i = 1499 + x.f0 by unfold topOf; rw [if_pos (And.intro e1 e2)]]
      · exact hbad c1 _
    · rw [if_neg (fb e2)]
      refine hT _ ?_ _
      rw [show topOf x turn fresh i = 1499 by unfold topOf; rw [if_neg (fun h => e2 h.2)]]
  · rw [if_neg e1]
    refine hT _ ?_ _
    rw [show topOf x turn fresh i = 1499 by unfold topOf; rw [if_neg (fun h => e1 h.1)]]
theorem classes {k : Nat} (hK : 2097152 ≤ k) (cs : List S123) (turn : List Int) (fresh b0 b1 b2 b3 b4 : Bool) (due : List Bool) (hn : cs.length ≤ 5) (hd : due.length = cs.length) (hf : fresh = true → 0 < turn.length) (hk : ∀ x ∈ cs, x.f2.length ≤ 1048576)
    (hr : ∀ m, m < cs.length → due.getD m false = [b0, b1, b2, b3, b4].getD m false) : ∀ (d i j j' : Nat), i + d = cs.length → d < j → d < j' →
    ∃ r, f38.l11 k j i cs turn fresh due = some r ∧ f40.l12 k j' cs cs.length i cs turn fresh b0 b1 b2 b3 b4 = some r ∧ (r = .inl false ∨ r = .inr ()) := by
  intro d
  induction d with
  | zero =>
    intro i j j' h hj hj'
    obtain ⟨j, rfl⟩ : ∃ q, j = q + 1 := ⟨j - 1, by omega⟩
    obtain ⟨j', rfl⟩ : ∃ q, j' = q + 1 := ⟨j' - 1, by omega⟩
    refine ⟨.inr (), ?_, ?_, .inr rfl⟩
    · simp only [f38.l11, f38.l11.step]
      rw [if_neg (fb (by omega))]
    · simp only [f40.l12, f40.l12.step]
      rw [if_neg (fb (by omega))]
  | succ d ih =>
    intro i j j' h hj hj'
    obtain ⟨j, rfl⟩ : ∃ q, j = q + 1 := ⟨j - 1, by omega⟩
    obtain ⟨j', rfl⟩ : ∃ q, j' = q + 1 := ⟨j' - 1, by omega⟩
    have hi : i < cs.length := by omega
    have hl := hk cs[i] (List.getElem_mem hi)
    obtain ⟨s, _, hs⟩ := bytes hK 0 0 0 0 0 cs[i].f2 hl
    obtain ⟨g1, g2⟩ := spec_class hK cs turn fresh due i j hi hn hd hf hl hs
    obtain ⟨g3, g4⟩ := impl_class12 hK cs turn fresh b0 b1 b2 b3 b4 i j' hi hn hf hl hs
    rw [hr i hi] at g1 g2
    by_cases c : ([b0, b1, b2, b3, b4].getD i false = decide ((cs[i].f2.length : Int) > 0)) ∧ clP cs[i] s (topOf cs[i] turn fresh i)
    · rw [g1 c, g3 c]
      exact ih (i + 1) j j' (by omega) (by omega) (by omega)
    · exact ⟨.inl false, g2 c, g4 c, .inl rfl⟩
/-! ### the turn -/
theorem five (L : List Bool) (h : L.length = 5) : [L.getD 0 false, L.getD 1 false, L.getD 2 false, L.getD 3 false, L.getD 4 false] = L := by
  match L, h with
  | [a, b, c, d, e], _ => rfl
theorem getD_set (L : List Bool) (q m : Nat) (hq : q < L.length) : (L.set q true).getD m false = if q = m then true else L.getD m false := by
  simp only [List.getD_eq_getElem?_getD, List.getElem?_set]
  by_cases e : q = m
  · subst e; simp [hq]
  · simp [e]
theorem turns {k : Nat} (hK : 2097152 ≤ k) (cs : List S123) (turn : List Int) (fresh : Bool) (hn : cs.length ≤ 5) (ht : turn.length ≤ 1048576) : ∀ (d i j j' : Nat) (due : List Bool) (b0 b1 b2 b3 b4 : Bool), i + d = turn.length → d < j → d < j' → due.length = cs.length → (∀ m, m < cs.length → due.getD m false = [b0, b1, b2, b3, b4].getD m false) →
    (∃ p q, f38.l5 k j i cs turn fresh due = some (.inl p) ∧ p.1 = false ∧ f40.l5 k j' turn turn.length i cs turn fresh b0 b1 b2 b3 b4 = some (.inl q) ∧ q.1 = false) ∨
    (∃ due' c0 c1 c2 c3 c4, f38.l5 k j i cs turn fresh due = some (.inr (cs, turn, fresh, due')) ∧ f40.l5 k j' turn turn.length i cs turn fresh b0 b1 b2 b3 b4 = some (.inr (cs, turn, fresh, c0, c1, c2, c3, c4)) ∧ due'.length = cs.length ∧ (∀ m, m < cs.length → due'.getD m false = [c0, c1, c2, c3, c4].getD m false)) := by
  intro d
  induction d with
  | zero =>
    intro i j j' due b0 b1 b2 b3 b4 h hj hj' hd hr
    obtain ⟨j, rfl⟩ : ∃ q, j = q + 1 := ⟨j - 1, by omega⟩
    obtain ⟨j', rfl⟩ : ∃ q, j' = q + 1 := ⟨j' - 1, by omega⟩
    refine .inr ⟨due, b0, b1, b2, b3, b4, ?_, ?_, hd, hr⟩
    · simp only [f38.l5, f38.l5.step]
      rw [if_neg (fb (by omega))]
    · simp only [f40.l5, f40.l5.step]
      rw [if_neg (fb (by omega))]
  | succ d ih =>
    intro i j j' due b0 b1 b2 b3 b4 h hj hj' hd hr
    obtain ⟨j, rfl⟩ : ∃ q, j = q + 1 := ⟨j - 1, by omega⟩
    obtain ⟨j', rfl⟩ : ∃ q, j' = q + 1 := ⟨j' - 1, by omega⟩
    have hi : i < turn.length := by omega
    simp only [f38.l5, f38.l5.step, f40.l5, f40.l5.step, gd turn i _ hi, wsucc hi ht, spec_in, impl_in, Option.bind_some, Nat.mul_one]
    rw [w64 (n := (cs.length : Int) - 1) (by omega) (by omega)]
    by_cases c : 0 ≤ turn[i] ∧ turn[i] ≤ (cs.length : Int) - 1
    · obtain ⟨q, hq⟩ := Int.eq_ofNat_of_zero_le c.1
      have hql : q < cs.length := by omega
      rw [hq] at c ⊢
      simp only [Int.toNat_natCast]
      have e5 : ([b0, b1, b2, b3, b4].set q true).length = 5 := by simp
      by_cases e : due.getD q false = true
      · have e' : [b0, b1, b2, b3, b4].getD q false = true := by rw [← hr q hql]; exact e
        refine .inl ⟨(false, cs, turn, fresh, due), (false, cs, turn, fresh, b0, b1, b2, b3, b4), ?_, rfl, ?_, rfl⟩
        · rw [if_pos (tb (by omega)), if_pos (by omega), if_pos (by omega), if_pos (bp c), if_pos (by omega), if_pos (by omega), if_pos (by omega), if_pos (by omega), if_pos e]
        · rw [if_pos (tb (by omega)), if_pos (by omega), if_pos (by omega), if_pos (bp c), if_pos (by omega), if_pos (by omega), if_pos (by omega), if_pos e']
      · have e' : ¬ [b0, b1, b2, b3, b4].getD q false = true := by rw [← hr q hql]; exact e
        have := ih (i + 1) j j' (due.set q true) (([b0, b1, b2, b3, b4].set q true).getD 0 false) (([b0, b1, b2, b3, b4].set q true).getD 1 false) (([b0, b1, b2, b3, b4].set q true).getD 2 false) (([b0, b1, b2, b3, b4].set q true).getD 3 false) (([b0, b1, b2, b3, b4].set q true).getD 4 false)
          (by omega) (by omega) (by omega) (by simpa using hd) (fun m hm => by
            rw [five _ e5, getD_set _ _ _ (by omega), getD_set _ _ _ (by simp; omega), hr m hm])
        have h1 : (i : Int) < turn.length := by omega
        have h2 : (0 : Int) ≤ i := by omega
        have h3 : (0 : Int) ≤ q := by omega
        have h4 : (q : Int) < due.length := by omega
        have h5 : (q : Int) < 5 := by omega
        have h6 : q < 5 := by omega
        have h7 : (q : Int) ≤ (cs.length : Int) - 1 := c.2
        simp only [decide_eq_true_eq, h1, h2, h3, h4, h5, h6, h7, and_self, decide_true, Bool.not_true, if_true, if_neg e, if_neg e']
        exact this
    · refine .inl ⟨(false, cs, turn, fresh, due), (false, cs, turn, fresh, b0, b1, b2, b3, b4), ?_, rfl, ?_, rfl⟩
      · rw [if_pos (tb (by omega)), if_pos (by omega), if_pos (by omega), if_neg (bn c)]
      · rw [if_pos (tb (by omega)), if_pos (by omega), if_pos (by omega), if_neg (bn c)]
/-- How many of the first n are marked. -/
def cntB (s : List Bool) : Nat → Nat
  | 0 => 0
  | n + 1 => cntB s n + (if s.getD n false = true then 1 else 0)
theorem cntB_le (s : List Bool) : ∀ n, cntB s n ≤ n
  | 0 => Nat.le_refl _
  | n + 1 => by
    have := cntB_le s n
    simp only [cntB]
    split <;> omega
theorem cntB_same (s : List Bool) (q : Nat) (hq : q < s.length) : ∀ n, n ≤ q → cntB (s.set q true) n = cntB s n
  | 0, _ => rfl
  | n + 1, h => by
    simp only [cntB]
    rw [cntB_same s q hq n (by omega), getD_set _ _ _ hq, if_neg (show ¬ q = n by omega)]
theorem cntB_set (s : List Bool) (q : Nat) (hq : q < s.length) (hf : ¬ s.getD q false = true) : ∀ n, q < n → cntB (s.set q true) n = cntB s n + 1
  | 0, h => by omega
  | n + 1, h => by
    simp only [cntB]
    by_cases e : q = n
    · subst e
      rw [cntB_same s q hq q (Nat.le_refl _), getD_set _ _ _ hq, if_pos rfl, if_pos rfl, if_neg hf]
    · rw [cntB_set s q hq hf n (by omega), getD_set _ _ _ hq, if_neg e]
      omega
theorem pig {k : Nat} (hK : 2097152 ≤ k) (cs : List S123) (turn : List Int) (fresh : Bool) (hn : cs.length ≤ 5) (ht : cs.length < turn.length) (h5 : turn.length ≤ 5) : ∀ (d i j : Nat) (b0 b1 b2 b3 b4 : Bool), i + d = turn.length → d < j → cntB [b0, b1, b2, b3, b4] cs.length = i →
    ∃ q, f40.l5 k j turn turn.length i cs turn fresh b0 b1 b2 b3 b4 = some (.inl q) ∧ q.1 = false := by
  intro d
  induction d with
  | zero =>
    intro i j b0 b1 b2 b3 b4 h hj hc
    have := cntB_le [b0, b1, b2, b3, b4] cs.length
    omega
  | succ d ih =>
    intro i j b0 b1 b2 b3 b4 h hj hc
    obtain ⟨j, rfl⟩ : ∃ q, j = q + 1 := ⟨j - 1, by omega⟩
    have hi : i < turn.length := by omega
    simp only [f40.l5, f40.l5.step, gd turn i _ hi, wsucc hi (show turn.length ≤ 1048576 by omega), impl_in, Option.bind_some, Nat.mul_one]
    rw [w64 (n := (cs.length : Int) - 1) (by omega) (by omega), if_pos (tb (by omega)), if_pos (by omega), if_pos (by omega)]
    by_cases c : 0 ≤ turn[i] ∧ turn[i] ≤ (cs.length : Int) - 1
    · obtain ⟨q, hq⟩ := Int.eq_ofNat_of_zero_le c.1
      have hql : q < cs.length := by omega
      rw [hq] at c ⊢
      simp only [Int.toNat_natCast]
      have e5 : ([b0, b1, b2, b3, b4].set q true).length = 5 := by simp
      rw [if_pos (bp c), if_pos (by omega), if_pos (by omega), if_pos (by omega)]
      by_cases e : [b0, b1, b2, b3, b4].getD q false = true
      · rw [if_pos e]
        exact ⟨_, rfl, rfl⟩
      · have h3 : (0 : Int) ≤ q := by omega
        have h5 : (q : Int) < 5 := by omega
        have h6 : q < 5 := by omega
        simp only [h3, h5, h6, if_true, if_neg e]
        refine ih (i + 1) j _ _ _ _ _ (by omega) (by omega) ?_
        rw [five _ e5, cntB_set _ q (by simp; omega) e _ hql, hc]
    · rw [if_neg (bn c)]
      exact ⟨_, rfl, rfl⟩
theorem queuesOK {k : Nat} (hK : 2097152 ≤ k) (cs : List S123) (turn : List Int) (fresh : Bool) (hk : ∀ x ∈ cs, x.f2.length ≤ 1048576) (hc : cs.length ≤ 1048576) (ht : turn.length ≤ 1048576) : ∃ r, f38 k cs turn fresh = some r ∧ f40 k cs turn fresh = some r := by
  simp only [f38, f38.step, f40, f40.step, spec_in, impl_in, Option.bind_some]
  by_cases c : 1 ≤ (cs.length : Int) ∧ (cs.length : Int) ≤ 5
  case neg => exact ⟨false, by rw [if_neg (bn c)], by rw [if_neg (bn c)]⟩
  have e0 : ∀ m, m < 5 → [false, false, false, false, false].getD m false = false := fun m _ => by
    rw [show [false, false, false, false, false] = List.replicate 5 false from rfl]
    simp only [List.getD_eq_getElem?_getD, List.getElem?_replicate]
    split <;> rfl
  by_cases c2 : (turn.length : Int) > (cs.length : Int)
  · refine ⟨false, by rw [if_pos (bp c), if_neg (nf c2)], ?_⟩
    rw [if_pos (bp c)]
    by_cases c3 : (turn.length : Int) > 5
    · rw [if_neg (nf c3)]
    · obtain ⟨q, hq, hq1⟩ := pig hK cs turn fresh (by omega) (by omega) (by omega) turn.length 0 k false false false false false (by omega) (by omega) (by
        have : ∀ n, n ≤ 5 → cntB [false, false, false, false, false] n = 0 := fun n => by
          induction n with
          | zero => intro _; rfl
          | succ n ih =>
            intro h
            simp only [cntB]
            rw [ih (by omega), e0 n (by omega)]
            rfl
        exact this _ (by omega))
      have hq : f40.l5 k k turn turn.length 0 cs turn fresh false false false false false = _ := hq
      rw [if_pos (ff c3)]
      by_cases c4 : fresh = true
      · rw [if_pos c4, if_neg (fb (by omega)), hq]
        simp only [Option.bind_some, Sum.elim_inl, hq1]
      · rw [if_neg c4, hq]
        simp only [Option.bind_some, Sum.elim_inl, hq1]
  · have hm : Int.toNat (cs.length : Int) * 1 ≤ maxN := by unfold maxN; omega
    have c3 : ¬ (turn.length : Int) > 5 := by omega
    have main : (fresh = true → 0 < turn.length) → ∃ r, ((f38.l5 k k 0 cs turn fresh (List.replicate (Int.toNat (cs.length : Int)) false)).bind (Sum.elim (fun t => some t.1) (fun t => (f38.l11 k k 0 t.1 t.2.1 t.2.2.1 t.2.2.2).bind (Sum.elim (fun t => some t) (fun _ => some true))))) = some r ∧
        ((f40.l5 k k turn turn.length 0 cs turn fresh false false false false false).bind (Sum.elim (fun t => some t.1) (fun t => (f40.l12 k k t.1 t.1.length 0 t.1 t.2.1 t.2.2.1 t.2.2.2.1 t.2.2.2.2.1 t.2.2.2.2.2.1 t.2.2.2.2.2.2.1 t.2.2.2.2.2.2.2).bind (Sum.elim (fun t => some t) (fun _ => some true))))) = some r := fun hf => by
      rw [Int.toNat_natCast]
      rcases turns hK cs turn fresh (by omega) ht turn.length 0 k k (List.replicate cs.length false) false false false false false (by omega) (by omega) (by omega) (by simp) (fun m hm => by
        rw [e0 m (by omega)]
        simp only [List.getD_eq_getElem?_getD, List.getElem?_replicate]
        split <;> rfl) with ⟨p, q, h1, h2, h3, h4⟩ | ⟨due', c0, c1, c2, c3, c4, h1, h2, h3, h4⟩
      · refine ⟨false, ?_, ?_⟩
        · rw [show f38.l5 k k 0 cs turn fresh _ = _ from h1]; simp only [Option.bind_some, Sum.elim_inl, h2]
        · rw [show f40.l5 k k turn turn.length 0 cs turn fresh _ _ _ _ _ = _ from h3]; simp only [Option.bind_some, Sum.elim_inl, h4]
      · obtain ⟨r, g1, g2, g3⟩ := classes hK cs turn fresh c0 c1 c2 c3 c4 due' (by omega) h3 hf hk h4 cs.length 0 k k (by omega) (by omega) (by omega)
        rw [show f38.l5 k k 0 cs turn fresh _ = _ from h1, show f40.l5 k k turn turn.length 0 cs turn fresh _ _ _ _ _ = _ from h2]
        simp only [Option.bind_some, Sum.elim_inr]
        rw [show f38.l11 k k 0 cs turn fresh due' = _ from g1, show f40.l12 k k cs cs.length 0 cs turn fresh c0 c1 c2 c3 c4 = _ from g2]
        rcases g3 with rfl | rfl
        · exact ⟨false, rfl, rfl⟩
        · exact ⟨true, rfl, rfl⟩
    rw [if_pos (bp c), if_pos (bp c), if_pos (ff c2), if_pos (ff c3)]
    by_cases c4 : fresh = true
    · rw [if_pos c4, if_pos c4]
      by_cases c5 : (turn.length : Int) = 0
      · rw [if_pos (tb c5), if_pos (tb c5)]
        exact ⟨false, rfl, rfl⟩
      · rw [if_neg (fb c5), if_neg (fb c5), if_pos (by omega), if_pos hm]
        exact main fun _ => by omega
    · rw [if_neg c4, if_neg c4, if_pos (by omega), if_pos hm]
      exact main fun h => absurd h c4
theorem FnExactQueuesOK : Says := by
  intro l t f hl ht _
  have hK : 2097152 ≤ 2097152 := Nat.le_refl _
  refine ⟨2097152, ?_⟩
  obtain ⟨z, gz, hz⟩ := szQueues hK l t f (fun x hx => (hl.2 x hx).2.2.1.1) hl.1 ht.1
  simp only [f6, f6.step, gz, Option.bind_some]
  by_cases c : z < 0
  · rw [if_pos (tb c)]
  · obtain ⟨⟨h1, h2⟩, h3⟩ := hz.resolve_left c
    have hk : ∀ x ∈ l.map convC, x.f2.length ≤ 1048576 := by
      intro x hx
      obtain ⟨y, hy, rfl⟩ := List.mem_map.mp hx
      simpa [convC] using h2 y hy
    have hc : (l.map convC).length ≤ 1048576 := by simpa using h1
    obtain ⟨r, g1, g2⟩ := queuesOK hK (l.map convC) t f hk hc h3
    rw [if_neg (fb c)]
    simp only [toQueues hK l t f h1 h2 h3, Option.bind_some, g1, g2, eqQueues hK (l.map convC) t f hc hk h3]
    simp
end Go.Proofs.Ytildepkogbcdpaa.Pure
