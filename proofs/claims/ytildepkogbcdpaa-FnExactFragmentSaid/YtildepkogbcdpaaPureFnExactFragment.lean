/- The plain law of FnExactFragment. -/
import Derived.Test.YtildepkogbcdpaaSaysFnExactFragment
namespace Go.Proofs.Ytildepkogbcdpaa.Pure
open Go Go.B Go.Proofs.Ytildepkogbcdpaa.B Go.Proofs.Ytildepkogbcdpaa.SaysFnExactFragment
set_option linter.unusedVariables false
set_option linter.unusedSimpArgs false
theorem w64 {n : Int} (h0 : -9223372036854775808 ≤ n) (h1 : n ≤ 9223372036854775807) : IntKind.i64.wrap n = n := by
  rw [IntKind.wrap_i64]; omega
theorem tb {c : Prop} [Decidable c] (h : c) : decide c = true := decide_eq_true h
theorem fb {c : Prop} [Decidable c] (h : ¬ c) : ¬ decide c = true := by simpa using h
theorem ff {c : Prop} [Decidable c] (h : ¬ c) : decide c = false := by simpa using h
theorem gm {α : Type} (pre rest : List α) (x d : α) : List.getD (pre ++ x :: rest) (Int.toNat (pre.length : Int)) d = x := by
  simp [List.getD_eq_getElem?_getD]
theorem lt_mid {α : Type} (pre rest : List α) (x : α) : (pre.length : Int) < ((pre ++ x :: rest).length : Int) := by simp; omega
theorem set_mid {α : Type} (pre rest : List α) (x y : α) : List.set (pre ++ x :: rest) (Int.toNat (pre.length : Int)) y = pre ++ y :: rest := by
  simp
theorem set_at {e : TypeId} (pre rest : List (env.T e)) (x y : env.T e) {off : Nat} {cs : List (Cell env.T)} (h : putCells (E := env) e x off cs = some y) : setE env e (pre ++ x :: rest) (Int.toNat (pre.length : Int)) off cs = pre ++ y :: rest := by
  have hg : List.getD (pre ++ x :: rest) (Int.toNat (pre.length : Int)) (env.dflt e) = x := gm pre rest x _
  simp only [setE, hg, h, Option.getD_some, set_mid]
theorem mid_next {α : Type} (pre rest : List α) (x : α) : pre ++ x :: rest = (pre ++ [x]) ++ rest := by simp
/-! ### rows of bytes -/
theorem copyB_loop (k : Nat) (xs : List Int) (hl : xs.length ≤ 1048576) : ∀ (rest pre : List Int) (j : Nat), xs = pre ++ rest → rest.length < j → f30.l3 k j xs (pre.length : Int) (pre ++ List.replicate rest.length 0) = some xs := by
  intro rest
  induction rest with
  | nil =>
    intro pre j hx hj
    obtain ⟨j, rfl⟩ : ∃ j', j = j' + 1 := ⟨j - 1, by omega⟩
    simp only [f30.l3, f30.l3.step]
    have : xs.length = pre.length := by rw [hx]; simp
    rw [if_neg (fb (by omega)), hx]; simp
  | cons x rest ih =>
    intro pre j hx hj
    obtain ⟨j, rfl⟩ : ∃ j', j = j' + 1 := ⟨j - 1, by omega⟩
    have hlt : (pre.length : Int) < (xs.length : Int) := by rw [hx]; exact lt_mid _ _ _
    have hg : xs.getD (Int.toNat (pre.length : Int)) 0 = x := by rw [hx]; exact gm _ _ _ _
    simp only [f30.l3, f30.l3.step, hg, List.length_cons, List.replicate_succ, set_mid]
    rw [if_pos (tb hlt), if_pos (by omega), if_pos hlt, if_pos (by omega), if_pos (lt_mid _ _ _), w64 (by omega) (by omega)]
    have := ih (pre ++ [x]) j (by rw [hx]; simp) (by simp at hj; omega)
    simp only [List.length_append, List.length_singleton, List.append_assoc, List.singleton_append] at this
    exact this
theorem copyB (k : Nat) (hK : 2097152 ≤ k) {xs : List Int} (hl : xs.length ≤ 1048576) : f30 k xs = some xs := by
  have := copyB_loop k xs hl xs [] k rfl (by omega)
  simp only [f30, f30.step]
  rw [if_pos (by omega), if_pos (by simp [maxN]; omega)]
  have h0 : f30.l3 k k xs 0 (List.replicate (Int.toNat (xs.length : Int)) 0) = some xs := this
  rw [h0]; rfl
theorem eqB_loop (k : Nat) (xs : List Int) (hl : xs.length ≤ 1048576) : ∀ (d i j : Nat), i + d = xs.length → d < j → f33.l4 k j xs xs (i : Int) = some (.inr ()) := by
  intro d
  induction d with
  | zero =>
    intro i j hi hj
    obtain ⟨j, rfl⟩ : ∃ j', j = j' + 1 := ⟨j - 1, by omega⟩
    simp only [f33.l4, f33.l4.step]
    rw [if_neg (fb (by omega))]
  | succ d ih =>
    intro i j hi hj
    obtain ⟨j, rfl⟩ : ∃ j', j = j' + 1 := ⟨j - 1, by omega⟩
    simp only [f33.l4, f33.l4.step]
    rw [if_pos (tb (by omega)), if_pos (by omega), if_pos (by omega), if_pos (by omega), if_pos (by omega), if_neg (by simp), w64 (by omega) (by omega)]
    exact ih (i + 1) j (by omega) (by omega)
theorem eqB (k : Nat) (hK : 2097152 ≤ k) {xs : List Int} (hl : xs.length ≤ 1048576) : f33 k xs xs = some true := by
  have h0 : f33.l4 k k xs xs 0 = some (.inr ()) := eqB_loop k xs hl xs.length 0 k (by omega) (by omega)
  simp only [f33, f33.step, h0]
  simp
def HeldB : Int → List Int → Prop
  | _, [] => True
  | a, y :: ys => y = IntKind.u8.wrap a ∧ HeldB (a + 1) ys
theorem markB_loop (k : Nat) : ∀ (rest pre : List Int) (j : Nat) (a : Int), rest.length < j → pre.length + rest.length ≤ 1048576 → 0 ≤ a → a + rest.length ≤ 1000000000000 →
    ∃ ys, f34.l2 k j a (pre.length : Int) (pre ++ rest) = some (a + (rest.length : Int), pre ++ ys) ∧ HeldB a ys ∧ ys.length = rest.length := by
  intro rest
  induction rest with
  | nil =>
    intro pre j a hj hl h0 h1
    obtain ⟨j, rfl⟩ : ∃ j', j = j' + 1 := ⟨j - 1, by omega⟩
    simp only [f34.l2, f34.l2.step]
    rw [if_neg (fb (by simp))]
    exact ⟨[], by simp, trivial, rfl⟩
  | cons x rest ih =>
    intro pre j a hj hl h0 h1
    obtain ⟨j, rfl⟩ : ∃ j', j = j' + 1 := ⟨j - 1, by omega⟩
    simp only [List.length_cons] at hj hl h1
    simp only [f34.l2, f34.l2.step, set_mid]
    rw [if_pos (tb (lt_mid _ _ _)), if_pos (by omega), if_pos (lt_mid _ _ _), w64 (by omega) (by omega), w64 (by omega) (by omega)]
    obtain ⟨ys, h, hh, hl2⟩ := ih (pre ++ [IntKind.u8.wrap a]) j (a + 1) (by omega) (by simp; omega) (by omega) (by omega)
    simp only [List.length_append, List.length_singleton, List.append_assoc, List.singleton_append] at h
    refine ⟨IntKind.u8.wrap a :: ys, Eq.trans h ?_, ⟨rfl, hh⟩, by simp [hl2]⟩
    simp only [List.length_cons]
    rw [show a + 1 + (rest.length : Int) = a + ((rest.length + 1 : Nat) : Int) by omega]
theorem markB (k : Nat) (hK : 2097152 ≤ k) {xs : List Int} (hl : xs.length ≤ 1048576) {a : Int} (h0 : 0 ≤ a) (h1 : a ≤ 100000000000) : ∃ ys, f34 k xs a = some (a + (xs.length : Int), ys) ∧ HeldB a ys ∧ ys.length = xs.length := by
  obtain ⟨ys, h, h2, h3⟩ := markB_loop k xs [] k a (by omega) (by simpa using hl) h0 (by omega)
  have h : f34.l2 k k a 0 xs = some (a + (xs.length : Int), ys) := h
  exact ⟨ys, by simp only [f34, f34.step, h]; rfl, h2, h3⟩
theorem heldB_loop (k : Nat) : ∀ (ys pre : List Int) (j : Nat) (a : Int), HeldB a ys → ys.length < j → pre.length + ys.length ≤ 1048576 → 0 ≤ a → a + ys.length ≤ 1000000000000 → f95.l2 k j (pre ++ ys) a (pre.length : Int) = some (.inr (a + (ys.length : Int))) := by
  intro ys
  induction ys with
  | nil =>
    intro pre j a hh hj hl h0 h1
    obtain ⟨j, rfl⟩ : ∃ j', j = j' + 1 := ⟨j - 1, by omega⟩
    simp only [f95.l2, f95.l2.step]
    rw [if_neg (fb (by simp))]
    simp
  | cons y ys ih =>
    intro pre j a hh hj hl h0 h1
    obtain ⟨j, rfl⟩ : ∃ j', j = j' + 1 := ⟨j - 1, by omega⟩
    simp only [List.length_cons] at hj hl h1
    obtain ⟨rfl, hh⟩ := hh
    simp only [f95.l2, f95.l2.step, gm]
    rw [if_pos (tb (lt_mid _ _ _)), if_pos (by omega), if_pos (lt_mid _ _ _), if_neg (by simp), w64 (by omega) (by omega), w64 (by omega) (by omega)]
    have := ih (pre ++ [IntKind.u8.wrap a]) j (a + 1) hh (by omega) (by simp; omega) (by omega) (by omega)
    simp only [List.length_append, List.length_singleton, List.append_assoc, List.singleton_append] at this
    refine Eq.trans this ?_
    simp only [List.length_cons]
    rw [show a + 1 + (ys.length : Int) = a + ((ys.length + 1 : Nat) : Int) by omega]
theorem heldB (k : Nat) (hK : 2097152 ≤ k) {ys : List Int} (hl : ys.length ≤ 1048576) {a : Int} (h0 : 0 ≤ a) (h1 : a ≤ 100000000000) (hh : HeldB a ys) : f95 k ys a = some (a + (ys.length : Int)) := by
  have := heldB_loop k ys [] k a hh (by omega) (by simpa using hl) h0 (by omega)
  have h : f95.l2 k k ys a 0 = some (.inr (a + (ys.length : Int))) := this
  simp only [f95, f95.step, h]; rfl
/-! ### a mark's text -/
theorem text_loop (k : Nat) : ∀ (d j : Nat) (a : Int) (s : ByteArray), d < j → 0 ≤ a → a < 10 ^ d → a < 1000000000000000 → s.size + d ≤ 1000 → ∃ t, f122.l4 k j a s = some t ∧ t.size ≤ s.size + d := by
  intro d
  induction d with
  | zero =>
    intro j a s hj h0 h1 hb hs
    obtain ⟨j, rfl⟩ : ∃ j', j = j' + 1 := ⟨j - 1, by omega⟩
    simp only [f122.l4, f122.l4.step]
    rw [if_neg (fb (by simp at h1; omega))]
    exact ⟨_, rfl, by omega⟩
  | succ d ih =>
    intro j a s hj h0 h1 hb hs
    obtain ⟨j, rfl⟩ : ∃ j', j = j' + 1 := ⟨j - 1, by omega⟩
    simp only [f122.l4, f122.l4.step]
    by_cases c : a > 0
    · have hd : Int.tdiv a 10 = a / 10 := Int.tdiv_eq_ediv_of_nonneg h0
      have hsz : ∀ x : Int, (strOf [x]).size = 1 := fun x => rfl
      rw [if_pos (tb c), if_pos (by rw [hsz]; simp [maxN]; omega)]
      rw [hd, w64 (by omega) (by omega)]
      have h2 : a / 10 < 10 ^ d := by
        rw [Int.pow_succ] at h1
        omega
      obtain ⟨t, e1, e2⟩ := ih j (a / 10) (strOf [IntKind.u8.wrap (IntKind.i64.wrap (48 + Int.tmod a 10))] ++ s) (by omega) (by omega) h2 (by omega) (by rw [ByteArray.size_append, hsz]; omega)
      exact ⟨t, e1, by rw [ByteArray.size_append, hsz] at e2; omega⟩
    · rw [if_neg (fb c)]
      exact ⟨_, rfl, by omega⟩
theorem markText (k : Nat) (hK : 2097152 ≤ k) {a : Int} (h0 : 0 ≤ a) (h1 : a < 1000000000000000) : ∃ t, f122 k a = some t := by
  simp only [f122, f122.step]
  by_cases c : a ≤ 0
  · rw [if_pos (tb c)]; exact ⟨_, rfl⟩
  · rw [if_neg (fb c)]
    obtain ⟨t, e1, e2⟩ := text_loop k 15 k a ⟨#[]⟩ (by omega) h0 (by simpa using h1) h1 (by rw [show (⟨#[]⟩ : ByteArray).size = 0 from rfl]; omega)
    rw [e1]
    simp only [Option.bind_some]
    have e0 : (⟨#[]⟩ : ByteArray).size = 0 := rfl
    have e4 : (⟨#[109]⟩ : ByteArray).size = 1 := rfl
    rw [if_pos (by rw [e4]; simp only [maxN]; omega)]
    exact ⟨_, rfl⟩
/-! ### right packets -/
theorem in_spec (k : Nat) (a b c : Int) : f86 k a b c = some (decide (b ≤ a ∧ a ≤ c)) := by
  simp only [f86, f86.step]
  split <;> simp at * <;> omega
theorem in_impl (k : Nat) (a b c : Int) : f83 k a b c = some (decide (b ≤ a ∧ a ≤ c)) := by
  simp only [f83, f83.step]
  split <;> simp at * <;> omega
/-- A right packet; n: how long its data are. -/
def PkOK (v : Int) (from_ to : ByteArray) (hop proto id off : Int) (more keep : Bool) (n : Nat) : Prop :=
  (0 ≤ hop ∧ hop ≤ 255) ∧ (0 ≤ proto ∧ proto ≤ 255) ∧ n ≤ 1500 ∧
    ((v = 4 ∧ from_.size = 4 ∧ to.size = 4 ∧ (0 ≤ id ∧ id ≤ 65535) ∧ (0 ≤ off ∧ off ≤ 8191) ∧ (keep = true → more = false ∧ off = 0) ∧ (more = true → n % 8 = 0 ∧ 0 < n) ∧ 8 * off + n ≤ 65515) ∨
     (v = 6 ∧ from_.size = 16 ∧ to.size = 16 ∧ id = 0 ∧ off = 0 ∧ more = false ∧ keep = false))
instance (v : Int) (from_ to : ByteArray) (hop proto id off : Int) (more keep : Bool) (n : Nat) : Decidable (PkOK v from_ to hop proto id off more keep n) := by unfold PkOK; infer_instance
theorem tm8 (n : Nat) : Int.tmod (n : Int) 8 = ((n % 8 : Nat) : Int) := by rw [Int.tmod_eq_emod_of_nonneg (by omega)]; rfl
theorem wsum {off : Int} {n : Nat} (h : 0 ≤ off ∧ off ≤ 8191) (hn : n ≤ 1500) : IntKind.i64.wrap (IntKind.i64.wrap (8 * off) + (n : Int)) = 8 * off + n := by rw [w64 (n := 8 * off) (by omega) (by omega), w64 (by omega) (by omega)]
theorem pk_impl (k : Nat) (v : Int) (from_ to : ByteArray) (hop proto id off : Int) (more keep : Bool) (xs : List Int) : f20 k v from_ to hop proto id off more keep xs = some (decide (PkOK v from_ to hop proto id off more keep xs.length)) := by
  simp only [f20, f20.step, in_impl, Option.bind_some, tm8, PkOK]
  by_cases h1 : 0 ≤ hop ∧ hop ≤ 255
  case neg => simp [h1]
  by_cases h2 : 0 ≤ proto ∧ proto ≤ 255
  case neg => simp [h1, h2]
  by_cases h3 : xs.length ≤ 1500
  case neg =>
    have : ((xs.length : Int) > 1500) := by omega
    simp [h1, h2, h3, this]
  have h3' : ¬ ((xs.length : Int) > 1500) := by omega
  by_cases h4 : v = 4
  · subst h4
    by_cases h5 : from_.size = 4
    case neg =>
      have : ¬ ((from_.size : Int) = 4) := by omega
      simp [h1, h2, h3, h3', h5, this]
    by_cases h6 : to.size = 4
    case neg =>
      have : ¬ ((to.size : Int) = 4) := by omega
      simp [h1, h2, h3, h3', h5, h6, this]
    by_cases h7 : 0 ≤ id ∧ id ≤ 65535
    case neg => simp [h1, h2, h3, h3', h5, h6, h7]
    by_cases h8 : 0 ≤ off ∧ off ≤ 8191
    case neg => simp [h1, h2, h3, h3', h5, h6, h7, h8]
    simp only [wsum h8 h3]
    simp [-List.length_eq_zero_iff, h1, h2, h3, h3', h5, h6, h7, h8]
    cases keep <;> cases more <;> simp [-List.length_eq_zero_iff]
    · rcases Nat.eq_zero_or_pos xs.length with q1 | q1
      · simp [-List.length_eq_zero_iff, q1]
      · by_cases q2 : xs.length % 8 = 0 <;> simp [-List.length_eq_zero_iff, Nat.ne_of_gt q1, q1, q2] <;> omega
    · by_cases q0 : off = 0
      · subst q0; simp
      · have : ¬ off ≤ 0 := by omega
        simp [q0, this]
  · simp [h1, h2, h3, h3', h4]
    by_cases g1 : v = 6
    case neg => simp [g1]
    by_cases g2 : from_.size = 16
    case neg =>
      have : ¬ ((from_.size : Int) = 16) := by omega
      simp [g2, this]
    by_cases g3 : to.size = 16
    case neg =>
      have : ¬ ((to.size : Int) = 16) := by omega
      simp [g3, this]
    by_cases g4 : id = 0 <;> by_cases g5 : off = 0 <;> cases more <;> cases keep <;> simp [g1, g2, g3, g4, g5]
theorem pk_spec (k : Nat) (v : Int) (from_ to : ByteArray) (hop proto id off : Int) (more keep : Bool) (xs : List Int) : f85 k v from_ to hop proto id off more keep xs = some (decide (PkOK v from_ to hop proto id off more keep xs.length)) := by
  simp only [f85, f85.step, in_spec, Option.bind_some, tm8, PkOK]
  by_cases h1 : 0 ≤ hop ∧ hop ≤ 255
  case neg => simp [h1]
  by_cases h2 : 0 ≤ proto ∧ proto ≤ 255
  case neg => simp [h1, h2]
  by_cases h3 : xs.length ≤ 1500
  case neg =>
    have : ((xs.length : Int) > 1500) := by omega
    simp [h1, h2, h3, this]
  have h3' : ¬ ((xs.length : Int) > 1500) := by omega
  by_cases h4 : v = 4
  · subst h4
    by_cases h5 : from_.size = 4
    case neg =>
      have : ¬ ((from_.size : Int) = 4) := by omega
      simp [h1, h2, h3, h3', h5, this]
    by_cases h6 : to.size = 4
    case neg =>
      have : ¬ ((to.size : Int) = 4) := by omega
      simp [h1, h2, h3, h3', h5, h6, this]
    by_cases h7 : 0 ≤ id ∧ id ≤ 65535
    case neg => simp [h1, h2, h3, h3', h5, h6, h7]
    by_cases h8 : 0 ≤ off ∧ off ≤ 8191
    case neg => simp [h1, h2, h3, h3', h5, h6, h7, h8]
    simp only [wsum h8 h3]
    simp [-List.length_eq_zero_iff, h1, h2, h3, h3', h5, h6, h7, h8]
    cases keep <;> cases more <;> simp [-List.length_eq_zero_iff]
    · rcases Nat.eq_zero_or_pos xs.length with q1 | q1
      · simp [-List.length_eq_zero_iff, q1]
      · by_cases q2 : xs.length % 8 = 0 <;> simp [-List.length_eq_zero_iff, Nat.ne_of_gt q1, q1, q2] <;> omega
    · by_cases q0 : off = 0
      · subst q0; simp
      · have : ¬ off ≤ 0 := by omega
        simp [q0, this]
  · simp [h1, h2, h3, h3', h4]
    by_cases g1 : v = 6
    case neg => simp [g1]
    by_cases g2 : from_.size = 16
    case neg =>
      have : ¬ ((from_.size : Int) = 16) := by omega
      simp [g2, this]
    by_cases g3 : to.size = 16
    case neg =>
      have : ¬ ((to.size : Int) = 16) := by omega
      simp [g3, this]
    by_cases g4 : id = 0 <;> by_cases g5 : off = 0 <;> cases more <;> cases keep <;> simp [g1, g2, g3, g4, g5]
/-! ### packets -/
def zP : S24 := ⟨0, ByteArray.empty, ByteArray.empty, 0, 0, 0, 0, false, false, []⟩
theorem s24_0 (pre rest : List S24) (p0 : Int) (p1 : ByteArray) (p2 : ByteArray) (p3 : Int) (p4 : Int) (p5 : Int) (p6 : Int) (p7 : Bool) (p8 : Bool) (p9 : List Int) (a : Int) : set24 (pre ++ ⟨p0, p1, p2, p3, p4, p5, p6, p7, p8, p9⟩ :: rest) (Int.toNat (pre.length : Int)) 0 [.s (.int .i64 a)] = pre ++ ⟨a, p1, p2, p3, p4, p5, p6, p7, p8, p9⟩ :: rest := set_at (e := 24) pre rest _ _ rfl
theorem s24_1 (pre rest : List S24) (p0 : Int) (p1 : ByteArray) (p2 : ByteArray) (p3 : Int) (p4 : Int) (p5 : Int) (p6 : Int) (p7 : Bool) (p8 : Bool) (p9 : List Int) (a : ByteArray) : set24 (pre ++ ⟨p0, p1, p2, p3, p4, p5, p6, p7, p8, p9⟩ :: rest) (Int.toNat (pre.length : Int)) 1 [.s (.string a)] = pre ++ ⟨p0, a, p2, p3, p4, p5, p6, p7, p8, p9⟩ :: rest := set_at (e := 24) pre rest _ _ rfl
theorem s24_2 (pre rest : List S24) (p0 : Int) (p1 : ByteArray) (p2 : ByteArray) (p3 : Int) (p4 : Int) (p5 : Int) (p6 : Int) (p7 : Bool) (p8 : Bool) (p9 : List Int) (a : ByteArray) : set24 (pre ++ ⟨p0, p1, p2, p3, p4, p5, p6, p7, p8, p9⟩ :: rest) (Int.toNat (pre.length : Int)) 2 [.s (.string a)] = pre ++ ⟨p0, p1, a, p3, p4, p5, p6, p7, p8, p9⟩ :: rest := set_at (e := 24) pre rest _ _ rfl
theorem s24_3 (pre rest : List S24) (p0 : Int) (p1 : ByteArray) (p2 : ByteArray) (p3 : Int) (p4 : Int) (p5 : Int) (p6 : Int) (p7 : Bool) (p8 : Bool) (p9 : List Int) (a : Int) : set24 (pre ++ ⟨p0, p1, p2, p3, p4, p5, p6, p7, p8, p9⟩ :: rest) (Int.toNat (pre.length : Int)) 3 [.s (.int .i64 a)] = pre ++ ⟨p0, p1, p2, a, p4, p5, p6, p7, p8, p9⟩ :: rest := set_at (e := 24) pre rest _ _ rfl
theorem s24_4 (pre rest : List S24) (p0 : Int) (p1 : ByteArray) (p2 : ByteArray) (p3 : Int) (p4 : Int) (p5 : Int) (p6 : Int) (p7 : Bool) (p8 : Bool) (p9 : List Int) (a : Int) : set24 (pre ++ ⟨p0, p1, p2, p3, p4, p5, p6, p7, p8, p9⟩ :: rest) (Int.toNat (pre.length : Int)) 4 [.s (.int .i64 a)] = pre ++ ⟨p0, p1, p2, p3, a, p5, p6, p7, p8, p9⟩ :: rest := set_at (e := 24) pre rest _ _ rfl
theorem s24_5 (pre rest : List S24) (p0 : Int) (p1 : ByteArray) (p2 : ByteArray) (p3 : Int) (p4 : Int) (p5 : Int) (p6 : Int) (p7 : Bool) (p8 : Bool) (p9 : List Int) (a : Int) : set24 (pre ++ ⟨p0, p1, p2, p3, p4, p5, p6, p7, p8, p9⟩ :: rest) (Int.toNat (pre.length : Int)) 5 [.s (.int .i64 a)] = pre ++ ⟨p0, p1, p2, p3, p4, a, p6, p7, p8, p9⟩ :: rest := set_at (e := 24) pre rest _ _ rfl
theorem s24_6 (pre rest : List S24) (p0 : Int) (p1 : ByteArray) (p2 : ByteArray) (p3 : Int) (p4 : Int) (p5 : Int) (p6 : Int) (p7 : Bool) (p8 : Bool) (p9 : List Int) (a : Int) : set24 (pre ++ ⟨p0, p1, p2, p3, p4, p5, p6, p7, p8, p9⟩ :: rest) (Int.toNat (pre.length : Int)) 6 [.s (.int .i64 a)] = pre ++ ⟨p0, p1, p2, p3, p4, p5, a, p7, p8, p9⟩ :: rest := set_at (e := 24) pre rest _ _ rfl
theorem s24_7 (pre rest : List S24) (p0 : Int) (p1 : ByteArray) (p2 : ByteArray) (p3 : Int) (p4 : Int) (p5 : Int) (p6 : Int) (p7 : Bool) (p8 : Bool) (p9 : List Int) (a : Bool) : set24 (pre ++ ⟨p0, p1, p2, p3, p4, p5, p6, p7, p8, p9⟩ :: rest) (Int.toNat (pre.length : Int)) 7 [.s (.bool a)] = pre ++ ⟨p0, p1, p2, p3, p4, p5, p6, a, p8, p9⟩ :: rest := set_at (e := 24) pre rest _ _ rfl
theorem s24_8 (pre rest : List S24) (p0 : Int) (p1 : ByteArray) (p2 : ByteArray) (p3 : Int) (p4 : Int) (p5 : Int) (p6 : Int) (p7 : Bool) (p8 : Bool) (p9 : List Int) (a : Bool) : set24 (pre ++ ⟨p0, p1, p2, p3, p4, p5, p6, p7, p8, p9⟩ :: rest) (Int.toNat (pre.length : Int)) 8 [.s (.bool a)] = pre ++ ⟨p0, p1, p2, p3, p4, p5, p6, p7, a, p9⟩ :: rest := set_at (e := 24) pre rest _ _ rfl
theorem s24_9 (pre rest : List S24) (p0 : Int) (p1 : ByteArray) (p2 : ByteArray) (p3 : Int) (p4 : Int) (p5 : Int) (p6 : Int) (p7 : Bool) (p8 : Bool) (p9 : List Int) (a : List Int) : set24 (pre ++ ⟨p0, p1, p2, p3, p4, p5, p6, p7, p8, p9⟩ :: rest) (Int.toNat (pre.length : Int)) 9 [.sl 5 a] = pre ++ ⟨p0, p1, p2, p3, p4, p5, p6, p7, p8, a⟩ :: rest := set_at (e := 24) pre rest _ _ rfl
theorem eqP (k : Nat) (hK : 2097152 ≤ k) (p0 : Int) (p1 p2 : ByteArray) (p3 p4 p5 p6 : Int) (p7 p8 : Bool) {xs : List Int} (hl : xs.length ≤ 1048576) : f32 k p0 p1 p2 p3 p4 p5 p6 p7 p8 xs p0 p1 p2 p3 p4 p5 p6 p7 p8 xs = some true := by
  simp [f32, f32.step, eqB k hK hl]
def Short (n : Nat) (l : List S24) : Prop := ∀ x ∈ l, x.f9.length ≤ n
theorem eqPS_loop (k : Nat) (hK : 2097152 ≤ k) (xs : List S24) (hb : Short 1048576 xs) (hl : xs.length ≤ 1048576) : ∀ (d i j : Nat), i + d = xs.length → d < j → f61.l4 k j xs xs (i : Int) = some (.inr ()) := by
  intro d
  induction d with
  | zero =>
    intro i j hi hj
    obtain ⟨j, rfl⟩ : ∃ j', j = j' + 1 := ⟨j - 1, by omega⟩
    simp only [f61.l4, f61.l4.step]
    rw [if_neg (fb (by omega))]
  | succ d ih =>
    intro i j hi hj
    obtain ⟨j, rfl⟩ : ∃ j', j = j' + 1 := ⟨j - 1, by omega⟩
    have hlt : i < xs.length := by omega
    have hg : ∀ q, (xs.getD (Int.toNat (i : Int)) q) = xs[i] := fun q => by simp [List.getD_eq_getElem?_getD, List.getElem?_eq_getElem hlt]
    have h2 : (xs[i]).f9.length ≤ 1048576 := hb _ (List.getElem_mem hlt)
    simp only [f61.l4, f61.l4.step, hg, eqP k hK _ _ _ _ _ _ _ _ _ h2]
    rw [if_pos (tb (by omega)), if_pos (by omega), if_pos (by omega), if_pos (by omega), if_pos (by omega), w64 (by omega) (by omega)]
    simp only [Bool.false_eq_true, if_false, Option.bind_some, Bool.not_true]
    exact ih (i + 1) j (by omega) (by omega)
theorem eqPS (k : Nat) (hK : 2097152 ≤ k) {xs : List S24} (hb : Short 1048576 xs) (hl : xs.length ≤ 1048576) : f61 k xs xs = some true := by
  have h0 : f61.l4 k k xs xs 0 = some (.inr ()) := eqPS_loop k hK xs hb hl xs.length 0 k (by omega) (by omega)
  simp [f61, f61.step, h0]
/-- What a mark leaves of packets. -/
def HeldP (k : Nat) : Int → List S24 → Prop
  | _, [] => True
  | a, y :: ys => (∃ t1 t2 d, f122 k (a + 1) = some t1 ∧ f122 k (a + 2) = some t2 ∧ HeldB (a + 9) d ∧ d.length ≤ 1048576 ∧ y = ⟨a, t1, t2, a + 3, a + 4, a + 5, a + 6, decide (Int.tmod (a + 7) 3 = 0), decide (Int.tmod (a + 8) 3 = 0), d⟩) ∧ HeldP k (a + 9 + (y.f9.length : Int)) ys
def sizeP : List S24 → Nat
  | [] => 0
  | x :: l => 9 + x.f9.length + sizeP l
theorem sizeP_le {n : Nat} : ∀ {l : List S24}, Short n l → sizeP l ≤ (9 + n) * l.length
  | [], _ => by simp [sizeP]
  | x :: l, h => by
    have h1 := h x List.mem_cons_self
    have h2 := sizeP_le (l := l) fun y hy => h y (List.mem_cons_of_mem _ hy)
    simp only [sizeP, List.length_cons, Nat.mul_add, Nat.mul_one]
    omega
theorem markP_loop (k : Nat) (hK : 2097152 ≤ k) : ∀ (rest pre : List S24) (j : Nat) (a : Int), Short 1048576 rest → rest.length < j → pre.length + rest.length ≤ 1048576 → 0 ≤ a → a + sizeP rest ≤ 100000000000 →
    ∃ ys, f62.l2 k j a (pre.length : Int) (pre ++ rest) = some (a + (sizeP rest : Int), pre ++ ys) ∧ HeldP k a ys ∧ ys.length = rest.length ∧ sizeP ys = sizeP rest := by
  intro rest
  induction rest with
  | nil =>
    intro pre j a hb hj hl h0 h1
    obtain ⟨j, rfl⟩ : ∃ j', j = j' + 1 := ⟨j - 1, by omega⟩
    simp only [f62.l2, f62.l2.step]
    rw [if_neg (fb (by simp))]
    exact ⟨[], by simp [sizeP], trivial, rfl, rfl⟩
  | cons x rest ih =>
    intro pre j a hb hj hl h0 h1
    obtain ⟨j, rfl⟩ : ∃ j', j = j' + 1 := ⟨j - 1, by omega⟩
    simp only [List.length_cons, sizeP] at hj hl h1
    obtain ⟨p0, p1, p2, p3, p4, p5, p6, p7, p8, d⟩ := x
    have hd : d.length ≤ 1048576 := hb _ (List.mem_cons_self)
    simp only at h1
    obtain ⟨t1, e1⟩ := markText k hK (a := a + 1) (by omega) (by omega)
    obtain ⟨t2, e2⟩ := markText k hK (a := a + 2) (by omega) (by omega)
    obtain ⟨d', e3, e4, e5⟩ := markB k hK hd (a := a + 9) (by omega) (by omega)
    have hp : (0 : Int) ≤ (pre.length : Int) := by omega
    have w1 : IntKind.i64.wrap (a + 1) = a + 1 := w64 (by omega) (by omega)
    have w2 : IntKind.i64.wrap (a + 1 + 1) = a + 2 := by rw [w64 (by omega) (by omega)]; omega
    have w3 : IntKind.i64.wrap (a + 2 + 1) = a + 3 := by rw [w64 (by omega) (by omega)]; omega
    have w4 : IntKind.i64.wrap (a + 3 + 1) = a + 4 := by rw [w64 (by omega) (by omega)]; omega
    have w5 : IntKind.i64.wrap (a + 4 + 1) = a + 5 := by rw [w64 (by omega) (by omega)]; omega
    have w6 : IntKind.i64.wrap (a + 5 + 1) = a + 6 := by rw [w64 (by omega) (by omega)]; omega
    have w7 : IntKind.i64.wrap (a + 6 + 1) = a + 7 := by rw [w64 (by omega) (by omega)]; omega
    have w8 : IntKind.i64.wrap (a + 7 + 1) = a + 8 := by rw [w64 (by omega) (by omega)]; omega
    have w9 : IntKind.i64.wrap (a + 8 + 1) = a + 9 := by rw [w64 (by omega) (by omega)]; omega
    have wl : IntKind.i64.wrap ((pre.length : Int) + 1) = ((pre.length + 1 : Nat) : Int) := by rw [w64 (by omega) (by omega)]; omega
    simp only [f62.l2, f62.l2.step, w1, w2, w3, w4, w5, w6, w7, w8, w9, wl, e1, e2, Option.bind_some, s24_0, s24_1, s24_2, s24_3, s24_4, s24_5, s24_6, s24_7, s24_8, s24_9, gm, e3]
    simp only [lt_mid, hp, if_true, decide_true]
    obtain ⟨ys, h, hh, hl2, hs⟩ := ih (pre ++ [⟨a, t1, t2, a + 3, a + 4, a + 5, a + 6, decide (Int.tmod (a + 7) 3 = 0), decide (Int.tmod (a + 8) 3 = 0), d'⟩]) j (a + 9 + (d.length : Int)) (fun y hy => hb y (List.mem_cons_of_mem _ hy)) (by omega) (by simp; omega) (by omega) (by omega)
    simp only [List.length_append, List.length_singleton, List.append_assoc, List.singleton_append] at h
    refine ⟨⟨a, t1, t2, a + 3, a + 4, a + 5, a + 6, decide (Int.tmod (a + 7) 3 = 0), decide (Int.tmod (a + 8) 3 = 0), d'⟩ :: ys, Eq.trans h ?_, ⟨⟨t1, t2, d', e1, e2, e4, by omega, rfl⟩, ?_⟩, by simp [hl2], by simp [sizeP, hs, e5]⟩
    · simp only [sizeP]
      rw [show a + 9 + (d.length : Int) + (sizeP rest : Int) = a + ((9 + d.length + sizeP rest : Nat) : Int) by omega]
    · rw [e5]; exact hh
theorem heldP_loop (k : Nat) (hK : 2097152 ≤ k) : ∀ (ys pre : List S24) (j : Nat) (a : Int), HeldP k a ys → ys.length < j → pre.length + ys.length ≤ 1048576 → 0 ≤ a → a + sizeP ys ≤ 100000000000 → f63.l2 k j (pre ++ ys) a (pre.length : Int) = some (.inr (a + (sizeP ys : Int))) := by
  intro ys
  induction ys with
  | nil =>
    intro pre j a hh hj hl h0 h1
    obtain ⟨j, rfl⟩ : ∃ j', j = j' + 1 := ⟨j - 1, by omega⟩
    simp only [f63.l2, f63.l2.step]
    rw [if_neg (fb (by simp))]
    simp [sizeP]
  | cons y ys ih =>
    intro pre j a hh hj hl h0 h1
    obtain ⟨j, rfl⟩ : ∃ j', j = j' + 1 := ⟨j - 1, by omega⟩
    simp only [List.length_cons, sizeP] at hj hl h1
    obtain ⟨⟨t1, t2, d, e1, e2, e4, e5, rfl⟩, hh⟩ := hh
    simp only at hh h1
    have hp : (0 : Int) ≤ (pre.length : Int) := by omega
    have e3 := heldB k hK e5 (a := a + 9) (by omega) (by omega) e4
    have w1 : IntKind.i64.wrap (a + 1) = a + 1 := w64 (by omega) (by omega)
    have w2 : IntKind.i64.wrap (a + 1 + 1) = a + 2 := by rw [w64 (by omega) (by omega)]; omega
    have w3 : IntKind.i64.wrap (a + 2 + 1) = a + 3 := by rw [w64 (by omega) (by omega)]; omega
    have w4 : IntKind.i64.wrap (a + 3 + 1) = a + 4 := by rw [w64 (by omega) (by omega)]; omega
    have w5 : IntKind.i64.wrap (a + 4 + 1) = a + 5 := by rw [w64 (by omega) (by omega)]; omega
    have w6 : IntKind.i64.wrap (a + 5 + 1) = a + 6 := by rw [w64 (by omega) (by omega)]; omega
    have w7 : IntKind.i64.wrap (a + 6 + 1) = a + 7 := by rw [w64 (by omega) (by omega)]; omega
    have w8 : IntKind.i64.wrap (a + 7 + 1) = a + 8 := by rw [w64 (by omega) (by omega)]; omega
    have w9 : IntKind.i64.wrap (a + 8 + 1) = a + 9 := by rw [w64 (by omega) (by omega)]; omega
    have wl : IntKind.i64.wrap ((pre.length : Int) + 1) = ((pre.length + 1 : Nat) : Int) := by rw [w64 (by omega) (by omega)]; omega
    have hn : decide (a + 9 + (d.length : Int) < 0) = false := ff (by omega)
    simp only [f63.l2, f63.l2.step, w1, w2, w3, w4, w5, w6, w7, w8, w9, wl, e1, e2, Option.bind_some, gm, e3]
    simp only [lt_mid, hp, if_true, decide_true, ne_eq, not_true_eq_false, decide_false, Bool.false_eq_true, if_false, beq_self_eq_true, Bool.not_true, hn]
    have := ih (pre ++ [⟨a, t1, t2, a + 3, a + 4, a + 5, a + 6, decide (Int.tmod (a + 7) 3 = 0), decide (Int.tmod (a + 8) 3 = 0), d⟩]) j (a + 9 + (d.length : Int)) hh (by omega) (by simp; omega) (by omega) (by omega)
    simp only [List.length_append, List.length_singleton, List.append_assoc, List.singleton_append] at this
    refine Eq.trans this ?_
    simp only [sizeP]
    rw [show a + 9 + (d.length : Int) + (sizeP ys : Int) = a + ((9 + d.length + sizeP ys : Nat) : Int) by omega]
theorem markPS (k : Nat) (hK : 2097152 ≤ k) (xs : List S24) (hb : Short 2000 xs) (hl : xs.length ≤ 10000) : ∃ a ys, f62 k xs 1 = some (a, ys) ∧ 0 ≤ a ∧ f63 k ys 1 = some a := by
  have hs := sizeP_le hb
  have hs2 : sizeP xs ≤ 100000000 := Nat.le_trans hs (by have := Nat.mul_le_mul_left 2009 hl; omega)
  obtain ⟨ys, h1, h2, h3, h4⟩ := markP_loop k hK xs [] k 1 (fun x hx => by have := hb x hx; omega) (by omega) (by simp; omega) (by omega) (by omega)
  have h1 : f62.l2 k k 1 0 xs = some (1 + (sizeP xs : Int), ys) := h1
  have h5 := heldP_loop k hK ys [] k 1 h2 (by omega) (by simp; omega) (by omega) (by omega)
  have h5 : f63.l2 k k ys 1 0 = some (.inr (1 + (sizeP ys : Int))) := h5
  refine ⟨_, ys, by simp only [f62, f62.step, h1]; rfl, by omega, by simp only [f63, f63.step, h5, h4]; rfl⟩
/-! ### a packet in pieces -/
section
variable (A B : ByteArray) (hop proto id off : Int) (more keep : Bool)
/-- A piece. -/
def pc (at_ : Nat) (m : Bool) (d : List Int) : S24 := ⟨4, A, B, hop, proto, id, off + ((at_ / 8 : Nat) : Int), m, keep, d⟩
/-- The pieces from byte 'at' on. -/
def cut (room m8 : Nat) : Nat → Nat → List Int → List S24
  | 0, at_, d => [pc A B hop proto id off keep at_ more d]
  | f + 1, at_, d => if room < d.length then pc A B hop proto id off keep at_ true (d.take m8) :: cut room m8 f (at_ + m8) (d.drop m8) else [pc A B hop proto id off keep at_ more d]
theorem cut_len (room m8 : Nat) (h8 : 1 ≤ m8) (hm : m8 ≤ room) : ∀ (f at_ : Nat) (d : List Int), (cut A B hop proto id off more keep room m8 f at_ d).length ≤ d.length + 1
  | 0, _, _ => by simp [cut]
  | f + 1, at_, d => by
    simp only [cut]
    split
    · have := cut_len room m8 h8 hm f (at_ + m8) (d.drop m8)
      simp only [List.length_cons, List.length_drop] at this ⊢
      omega
    · simp
theorem cut_short (room m8 : Nat) : ∀ (f at_ : Nat) (d : List Int), d.length ≤ 1500 → Short 1500 (cut A B hop proto id off more keep room m8 f at_ d)
  | 0, _, d, h => by simp [cut, Short, pc]; exact h
  | f + 1, at_, d, h => by
    simp only [cut]
    split
    · intro x hx
      rcases List.mem_cons.mp hx with rfl | hx
      · simp [pc]; omega
      · exact cut_short room m8 f (at_ + m8) (d.drop m8) (by simp; omega) x hx
    · simp [Short, pc]; exact h
theorem impl_cut (k : Nat) (data : List Int) {room m8 : Nat} (h8 : 8 ≤ m8) (hd8 : m8 % 8 = 0) (hm : m8 ≤ room) (hr : room ≤ 2000) (hf0 : 0 ≤ off ∧ off ≤ 8191) : ∀ (f j at_ : Nat) (d : List Int) (acc : List S24), d.length ≤ f → f < j → acc.length ≤ at_ → at_ + d.length ≤ 2000 → at_ % 8 = 0 →
    ∃ (d' : List Int) (o' : Int) (acc' : List S24), f84.l5 k j room m8 d (off + ((at_ / 8 : Nat) : Int)) 4 A B hop proto id off more keep data acc = some (d', o', 4, A, B, hop, proto, id, off, more, keep, data, acc') ∧
      acc' ++ [(⟨4, A, B, hop, proto, id, o', more, keep, d'⟩ : S24)] = acc ++ cut A B hop proto id off more keep room m8 f at_ d ∧ d'.length ≤ 2000 ∧ acc'.length ≤ 2000 := by
  intro f
  induction f with
  | zero =>
    intro j at_ d acc hf hj ha hl h0
    obtain ⟨j, rfl⟩ : ∃ j', j = j' + 1 := ⟨j - 1, by omega⟩
    simp only [f84.l5, f84.l5.step]
    rw [if_neg (fb (by omega))]
    exact ⟨_, _, _, rfl, rfl, by omega, by omega⟩
  | succ f ih =>
    intro j at_ d acc hf hj ha hl h0
    obtain ⟨j, rfl⟩ : ∃ j', j = j' + 1 := ⟨j - 1, by omega⟩
    by_cases c : room < d.length
    · have e1 : IntKind.i64.wrap (Int.tdiv (m8 : Int) 8) = ((m8 / 8 : Nat) : Int) := by rw [Int.tdiv_eq_ediv_of_nonneg (by omega), w64 (by omega) (by omega)]; omega
      have e2 : IntKind.i64.wrap (off + ((at_ / 8 : Nat) : Int) + ((m8 / 8 : Nat) : Int)) = off + (((at_ + m8) / 8 : Nat) : Int) := by rw [w64 (by omega) (by omega)]; omega
      simp only [f84.l5, f84.l5.step, e1, e2, List.drop_zero, List.nil_append, Int.toNat_natCast, List.take_length]
      rw [if_pos (tb (by omega)), if_pos (by omega), if_pos (by omega), if_pos (by simp [maxN]; omega), if_pos (by simp [maxN]; omega), if_pos (by omega), if_pos (by omega), if_pos (by omega)]
      obtain ⟨d', o', acc', g1, g2, g3, g4⟩ := ih j (at_ + m8) (d.drop m8) (acc ++ [pc A B hop proto id off keep at_ true (d.take m8)]) (by simp; omega) (by omega) (by simp; omega) (by simp; omega) (by omega)
      refine ⟨d', o', acc', g1, ?_, g3, g4⟩
      rw [g2]
      simp only [cut, if_pos c, List.append_assoc, List.singleton_append]
    · simp only [f84.l5, f84.l5.step]
      rw [if_neg (fb (by omega))]
      refine ⟨_, _, _, rfl, ?_, by omega, by omega⟩
      simp only [cut, if_neg c]
      rfl
theorem spec_cut (k : Nat) (data : List Int) {room m8 : Nat} (h8 : 8 ≤ m8) (hd8 : m8 % 8 = 0) (hm : m8 ≤ room) (hr : room ≤ 2000) (hf0 : 0 ≤ off ∧ off ≤ 8191) : ∀ (f j at_ : Nat) (acc : List S24), data.length - at_ ≤ f → at_ < data.length → f + 1 < j → acc.length ≤ at_ → data.length ≤ 2000 → at_ % 8 = 0 →
    f87.l6 k j ((room : Int) + 20) m8 at_ 4 A B hop proto id off more keep data acc = some (acc ++ cut A B hop proto id off more keep room m8 f at_ (data.drop at_)) := by
  intro f
  induction f with
  | zero => intro j at_ acc hf h1; omega
  | succ f ih =>
    intro j at_ acc hf h1 hj ha hl h0
    obtain ⟨j, rfl⟩ : ∃ j', j = j' + 1 := ⟨j - 1, by omega⟩
    have e1 : IntKind.i64.wrap ((data.length : Int) - (at_ : Int)) = ((data.length - at_ : Nat) : Int) := by rw [w64 (by omega) (by omega)]; omega
    have e2 : IntKind.i64.wrap ((room : Int) + 20 - 20) = (room : Int) := by rw [w64 (by omega) (by omega)]; omega
    have e3 : IntKind.i64.wrap (Int.tdiv (at_ : Int) 8) = ((at_ / 8 : Nat) : Int) := by rw [Int.tdiv_eq_ediv_of_nonneg (by omega), w64 (by omega) (by omega)]; omega
    have e4 : IntKind.i64.wrap (off + ((at_ / 8 : Nat) : Int)) = off + ((at_ / 8 : Nat) : Int) := by rw [w64 (by omega) (by omega)]
    have hdl : (data.drop at_).length = data.length - at_ := List.length_drop
    simp only [f87.l6, f87.l6.step, e1, e2, e3, e4, List.nil_append, Int.toNat_natCast, List.take_length]
    rw [if_pos (tb (by omega))]
    by_cases c : data.length - at_ ≤ room
    · have e5 : IntKind.i64.wrap ((at_ : Int) + ((data.length - at_ : Nat) : Int)) = (data.length : Int) := by rw [w64 (by omega) (by omega)]; omega
      have hb : (if more = false then decide ((data.length : Int) < (data.length : Int)) else true) = more := by cases more <;> simp
      have hx : cut A B hop proto id off more keep room m8 (f + 1) at_ (data.drop at_) = [pc A B hop proto id off keep at_ more (data.drop at_)] := by simp only [cut]; rw [if_neg (by rw [hdl]; omega)]
      rw [if_pos (tb (by omega)), if_pos (by omega), if_pos (by omega), if_pos (by omega), if_pos (by simp [maxN]; omega), e5, hx]
      obtain ⟨j, rfl⟩ : ∃ j', j = j' + 1 := ⟨j - 1, by omega⟩
      cases more
      · rw [if_pos rfl, if_pos (by simp [maxN]; omega)]
        simp only [f87.l6, f87.l6.step]
        rw [if_neg (fb (by omega))]
        simp [pc]
      · rw [if_neg (by simp), if_pos (by simp [maxN]; omega)]
        simp only [f87.l6, f87.l6.step]
        rw [if_neg (fb (by omega))]
        simp [pc]
    · have e5 : IntKind.i64.wrap ((at_ : Int) + (m8 : Int)) = ((at_ + m8 : Nat) : Int) := by rw [w64 (by omega) (by omega)]; omega
      have e6 : (if (data.length : Int) < ((at_ + m8 : Nat) : Int) then (data.length : Int) else ((at_ + m8 : Nat) : Int)) = ((at_ + m8 : Nat) : Int) := by rw [if_neg (by omega)]
      have e7 : List.drop at_ (List.take (at_ + m8) data) = (data.drop at_).take m8 := by rw [List.drop_take]; congr 1; omega
      rw [if_neg (fb (by omega))]
      simp only [e5, e6, Int.toNat_natCast, e7]
      rw [if_pos (by omega), if_pos (by omega), if_pos (by omega), if_pos (by simp [maxN]; omega)]
      have hih := ih j (at_ + m8) (acc ++ [pc A B hop proto id off keep at_ true ((data.drop at_).take m8)]) (by omega) (by omega) (by omega) (by simp; omega) hl (by omega)
      have e8 : decide (((at_ + m8 : Nat) : Int) < (data.length : Int)) = true := tb (by omega)
      have hx : cut A B hop proto id off more keep room m8 (f + 1) at_ (data.drop at_) = pc A B hop proto id off keep at_ true ((data.drop at_).take m8) :: cut A B hop proto id off more keep room m8 f (at_ + m8) (data.drop (at_ + m8)) := by
        simp only [cut]
        rw [if_pos (by rw [hdl]; omega)]
        simp [List.drop_drop, Nat.add_comm]
      rw [hx]
      cases more
      · rw [if_pos rfl, e8, if_pos (by simp [maxN]; omega)]
        refine Eq.trans hih ?_
        simp
      · rw [if_neg (by simp), if_pos (by simp [maxN]; omega)]
        refine Eq.trans hih ?_
        simp
end
/-- What both functions answer: a code other than 0, and none; or pieces. -/
theorem frag_ok {k : Nat} (hK : 2097152 ≤ k) (v : Int) (A B : ByteArray) (hop proto id off : Int) (more keep : Bool) (data : List Int) (mtu : Int) :
    (∃ c, f17 k v A B hop proto id off more keep data mtu = some (.inl c) ∧ f18 k v A B hop proto id off more keep data mtu = some ([], c)) ∨
    ∃ l, f17 k v A B hop proto id off more keep data mtu = some (.inr (l, 0)) ∧ f18 k v A B hop proto id off more keep data mtu = some (l, 0) ∧ Short 2000 l ∧ l.length ≤ 10000 := by
  simp only [f17, f17.step, f18, f18.step, pk_impl, pk_spec, Option.bind_some, in_impl, in_spec]
  by_cases h : PkOK v A B hop proto id off more keep data.length
  case neg => exact .inl ⟨1, by simp [h]⟩
  by_cases h4 : v = 4
  case neg => exact .inl ⟨1, by simp [h, h4]⟩
  by_cases hm : 28 ≤ mtu ∧ mtu ≤ 1520
  case neg => subst h4; exact .inl ⟨4, by simp [h, hm]⟩
  obtain ⟨_, _, hn, ⟨_, hA, hB, hid, hoff, hkm, hm8, hle⟩ | ⟨h6, _⟩⟩ := h
  case inr => omega
  have h : PkOK v A B hop proto id off more keep data.length := ⟨by assumption, by assumption, hn, .inl ⟨h4, hA, hB, hid, hoff, hkm, hm8, hle⟩⟩
  obtain ⟨room, rfl⟩ : ∃ room : Nat, mtu = (room : Int) + 20 := ⟨(mtu - 20).toNat, by omega⟩
  subst h4
  have w1 : IntKind.i64.wrap ((data.length : Int) + 20) = (data.length : Int) + 20 := w64 (by omega) (by omega)
  have w2 : IntKind.i64.wrap (20 + (data.length : Int)) = 20 + (data.length : Int) := w64 (by omega) (by omega)
  have w3 : IntKind.i64.wrap ((room : Int) + 20 - 20) = (room : Int) := by rw [w64 (by omega) (by omega)]; omega
  have w4 : IntKind.i64.wrap (IntKind.i64.wrap (Int.tdiv (room : Int) 8) * 8) = ((room / 8 * 8 : Nat) : Int) := by rw [Int.tdiv_eq_ediv_of_nonneg (by omega), w64 (n := (room : Int) / 8) (by omega) (by omega), w64 (by omega) (by omega)]; omega
  simp only [w1, w2, tb h, tb hm]
  by_cases hk : keep = true ∧ room < data.length
  · obtain ⟨rfl, hk⟩ := hk
    exact .inl ⟨11, by simp; omega, by simp; omega⟩
  refine .inr ⟨cut A B hop proto id off more keep room (room / 8 * 8) data.length 0 data, ?_, ?_, ?_, ?_⟩
  · obtain ⟨d', o', acc', q1, q2, q3, q4⟩ := impl_cut A B hop proto id off more keep k data (room := room) (m8 := room / 8 * 8) (by omega) (by omega) (by omega) (by omega) hoff data.length k 0 data [] (by omega) (by omega) (by simp) (by omega) (by omega)
    have q1' : f84.l5 k k (room : Int) ((room / 8 * 8 : Nat) : Int) data off 4 A B hop proto id off more keep data [] = some (d', o', 4, A, B, hop, proto, id, off, more, keep, data, acc') := by rw [← q1]; simp
    have e : f84 k 4 A B hop proto id off more keep data ((room : Int) + 20) = some (cut A B hop proto id off more keep room (room / 8 * 8) data.length 0 data) := by
      simp only [f84, f84.step, w3, w4, q1', Option.bind_some, List.nil_append]
      rw [if_pos (by simp [maxN]; omega), if_pos (by simp [maxN]; omega), q2]
      rfl
    simp only [e, Option.bind_some]
    cases keep
    · simp
    · simp at hk; simp; omega
  · have e : f87 k 4 A B hop proto id off more keep data ((room : Int) + 20) = some (cut A B hop proto id off more keep room (room / 8 * 8) data.length 0 data) := by
      simp only [f87, f87.step, w2, w3, w4]
      by_cases c : data.length ≤ room
      · rw [if_pos (tb (by omega))]
        simp only [f146, f146.step, List.nil_append]
        rw [if_pos (by simp [maxN]; omega)]
        simp only [Option.bind_some]
        cases hdl : data.length with
        | zero => simp [cut, pc]
        | succ n => simp only [cut]; rw [if_neg (by omega)]; simp [pc]
      · rw [if_neg (fb (by omega))]
        have q := spec_cut A B hop proto id off more keep k data (room := room) (m8 := room / 8 * 8) (by omega) (by omega) (by omega) (by omega) hoff data.length k 0 [] (by omega) (by omega) (by omega) (by simp) (by omega) (by omega)
        have q' : f87.l6 k k ((room : Int) + 20) ((room / 8 * 8 : Nat) : Int) 0 4 A B hop proto id off more keep data [] = some ([] ++ cut A B hop proto id off more keep room (room / 8 * 8) data.length 0 (data.drop 0)) := q
        rw [q']
        simp
    simp only [e, Option.bind_some]
    cases keep
    · simp
    · simp at hk; simp; omega
  · exact fun x hx => by have := cut_short A B hop proto id off more keep room (room / 8 * 8) data.length 0 data hn x hx; omega
  · have := cut_len A B hop proto id off more keep room (room / 8 * 8) (by omega) (by omega) data.length 0 data
    omega
/-! ### the law -/
theorem sz_ok (k : Nat) (v : Int) (A B : ByteArray) (hop proto id off : Int) (more keep : Bool) (data : List Int) (hA : A.size ≤ maxLen) (hB : B.size ≤ maxLen) (hd : data.length ≤ maxLen) : ∃ n, f59 k v A B hop proto id off more keep data 1048576 = some n ∧ (¬ n < 0 → data.length ≤ 1048576) := by
  have hq : maxLen = 9223372036854775807 := by decide
  simp only [f59, f59.step, f127, f127.step]
  by_cases c1 : A.size ≤ 1048576
  case neg =>
    rw [w64 (n := (1048576 : Int) - (A.size : Int)) (by omega) (by omega), if_pos (tb (by omega))]
    exact ⟨_, rfl, by omega⟩
  rw [w64 (n := (1048576 : Int) - (A.size : Int)) (by omega) (by omega), if_neg (fb (by omega))]
  by_cases c2 : A.size + B.size ≤ 1048576
  case neg =>
    rw [w64 (n := (1048576 : Int) - (A.size : Int) - (B.size : Int)) (by omega) (by omega), if_pos (tb (by omega))]
    exact ⟨_, rfl, by omega⟩
  rw [w64 (n := (1048576 : Int) - (A.size : Int) - (B.size : Int)) (by omega) (by omega), if_neg (fb (by omega))]
  by_cases c3 : A.size + B.size + data.length ≤ 1048576
  case neg =>
    rw [w64 (n := (1048576 : Int) - (A.size : Int) - (B.size : Int) - (data.length : Int)) (by omega) (by omega), if_pos (tb (by omega))]
    exact ⟨_, rfl, by omega⟩
  rw [w64 (n := (1048576 : Int) - (A.size : Int) - (B.size : Int) - (data.length : Int)) (by omega) (by omega), if_neg (fb (by omega))]
  simp only [Option.bind_some]
  rw [if_neg (fb (by omega))]
  exact ⟨_, rfl, by omega⟩
theorem to_ok {k : Nat} (hK : 2097152 ≤ k) (v : Int) (A B : ByteArray) (hop proto id off : Int) (more keep : Bool) {data : List Int} (hd : data.length ≤ 1048576) : f60 k v A B hop proto id off more keep data = some (v, A, B, hop, proto, id, off, more, keep, data) := by
  simp only [f60, f60.step, copyB k hK hd, Option.bind_some]
theorem FnExactFragment : Says := by
  intro v A B hop proto id off more keep data mtu hv hA hB hhop hproto hid hoff _ _ ⟨hl, hb⟩ hmtu
  obtain ⟨k, hK⟩ : ∃ k : Nat, 2097152 ≤ k := ⟨_, Nat.le_refl _⟩
  refine ⟨k, ?_⟩
  simp only [f10, f10.step]
  obtain ⟨n, e, hn⟩ := sz_ok k v A B hop proto id off more keep data hA hB hl
  rw [e]
  simp only [Option.bind_some]
  by_cases c : n < 0
  · rw [if_pos (tb c)]
  rw [if_neg (fb c)]
  have hd := hn c
  obtain ⟨ys, m1, m2, m3⟩ := markB k hK hd (a := 1) (by omega) (by omega)
  have em : f35 k v A B hop proto id off more keep data 1 = some (1 + (data.length : Int), false, false, false, false, false, false, false, false, false, ys) := by simp only [f35, f35.step, m1, Option.bind_some]
  have p0 : decide (1 + (data.length : Int) < 0) = false := ff (by omega)
  simp only [to_ok hK v A B hop proto id off more keep hd, Option.bind_some, eqP k hK v A B hop proto id off more keep hd, em, p0]
  rcases frag_ok hK v A B hop proto id off more keep data mtu with ⟨c, e1, e2⟩ | ⟨l, e1, e2, hs, hle⟩
  · obtain ⟨a, ys, g1, g2, g3⟩ := markPS k hK [] (by intro x hx; cases hx) (by simp)
    have g1' := g1
    obtain ⟨j, rfl⟩ : ∃ j', k = j' + 1 := ⟨k - 1, by omega⟩
    have q1 : f62 (j + 1) [] 1 = some (1, []) := by simp only [f62, f62.step, f62.l2, f62.l2.step]; rfl
    have q2 : f63 (j + 1) [] 1 = some 1 := by simp only [f63, f63.step, f63.l2, f63.l2.step]; rfl
    simp only [e1, e2, Option.bind_some, Sum.elim_inl, eqPS (j + 1) hK (xs := []) (by intro x hx; cases hx) (by simp), q1, q2]
    simp
  · obtain ⟨a, ys, g1, g2, g3⟩ := markPS k hK l hs hle
    simp only [e1, e2, Option.bind_some, Sum.elim_inr, eqPS k hK (xs := l) (fun x hx => by have := hs x hx; omega) (by omega), g1, g3]
    have : decide (a < 0) = false := ff (by omega)
    simp [this]
end Go.Proofs.Ytildepkogbcdpaa.Pure
