/- Regions whose order is drawn: whatever order, what is true of the world. -/
import Derived.Test.YtepfpdaehcmblaaBDrawE
namespace Go.B
open Go Go.RowKit
set_option linter.unusedVariables false
set_option linter.unusedSimpArgs false
variable {E : Env} {P : Program}
section
variable {R : Type} {G : Gh} {w w0 w1 w' : World} {m m' m1 m2 : Mem E} {n : Nat} {r : R} {Φ Ψ : Nat → Prop} {I0 : Ent} {ts : List (AV E)} {a : Act} {Q : Exit → Act → World → Prop} {C : FuncId → Option (Entry E)} {ops : Array Oper}
def cnt : List Lg → Nat → Nat
 | _, 0 => 0
 | [], _ + 1 => 0
 | e :: l, k + 1 => (if e.ws = [] then 0 else 1) + cnt l k
def lg0 : Lg := ⟨[], [], 0, [], []⟩
def rsAt (L : List Lg) (i : Nat) : List Nat := (L.getD i lg0).rs
def wsAt (L : List Lg) (i : Nat) : List Nat := (L.getD i lg0).ws
theorem cnt_succ : ∀ (L : List Lg) (k : Nat), cnt L (k + 1) = cnt L k + (if wsAt L k = [] then 0 else 1)
 | [], 0 => rfl
 | [], k + 1 => rfl
 | e :: l, 0 => by simp [cnt, wsAt]
 | e :: l, k + 1 => by
  have := cnt_succ l k
  simp only [wsAt] at this
  simp only [cnt, wsAt] at *
  rw [show cnt l (k + 1) = _ from this]
  simp [Nat.add_assoc]
theorem cnt_le (L : List Lg) {i j : Nat} (h : i ≤ j) : cnt L i ≤ cnt L j := by
 induction j with
 | zero => have : i = 0 := by omega
           subst this; exact Nat.le_refl _
 | succ j ih =>
  by_cases hij : i = j + 1
  ·subst hij; exact Nat.le_refl _
  ·exact Nat.le_trans (ih (by omega)) (by rw [cnt_succ]; exact Nat.le_add_right _ _)
theorem cnt_lt (L : List Lg) {i j : Nat} (h : i < j) (hi : wsAt L i ≠ []) : cnt L i < cnt L j := by
 have h1 := cnt_succ L i
 rw [if_neg hi] at h1
 have := cnt_le L (show i + 1 ≤ j from h)
 omega
theorem cnt_find (L : List Lg) : ∀ (k x : Nat), x < cnt L k → ∃ e, e < k ∧ wsAt L e ≠ [] ∧ cnt L e = x
 | 0, x, h => by simp [cnt] at h
 | k + 1, x, h => by
  rw [cnt_succ] at h
  by_cases hw : wsAt L k = []
  ·rw [if_pos hw] at h
   obtain ⟨e, h1, h2⟩ := cnt_find L k x h
   exact ⟨e, Nat.lt_succ_of_lt h1, h2⟩
  ·rw [if_neg hw] at h
   by_cases hx : x < cnt L k
   ·obtain ⟨e, h1, h2⟩ := cnt_find L k x hx
    exact ⟨e, Nat.lt_succ_of_lt h1, h2⟩
   ·exact ⟨k, Nat.lt_succ_self k, hw, by omega⟩
theorem YE.same {o : Oper} {v : AV E} {rs ws : List Nat} (h : YE C ops m n o v m' rs ws ts) (hw : ws ≠ []) : ∀ k, k ∉ ws → look m' k = look m k := by
 unfold YE at h
 split at h
 ·exact h.same
 ·obtain ⟨oj, t, h2, h3, h4⟩ := h
  rcases h4 with ⟨b, hb, h5⟩ | ⟨hb, h5⟩
  ·rcases h5 with ⟨h6, h7⟩ | ⟨h6, h7, h8, h9, h10⟩
   ·exact h7.same
   ·exact absurd h10 hw
  ·exact absurd h5.2.2.2 hw
def Steps (ms : Nat → Mem E) (ls : List Lg) : Prop := ∀ e, wsAt ls e ≠ [] → ∀ k, k ∉ wsAt ls e → look (ms (cnt ls e + 1)) k = look (ms (cnt ls e)) k
theorem Steps.range {ms : Nat → Mem E} {L : List Lg} (h : Steps ms L) {N k p : Nat} : ∀ (d : Nat), p + d ≤ cnt L N → (∀ e, e < N → wsAt L e ≠ [] → p ≤ cnt L e → cnt L e < p + d → k ∉ wsAt L e) → look (ms (p + d)) k = look (ms p) k
 | 0, _, _ => rfl
 | d + 1, hd, hk => by
  obtain ⟨e, he, hw, hc⟩ := cnt_find L N (p + d) (by omega)
  have h1 := h e hw k (hk e he hw (by omega) (by omega))
  rw [hc] at h1
  rw [← Nat.add_assoc, h1]
  exact h.range d (by omega) fun e he hw h1 h2 => hk e he hw h1 (by omega)
def YL (C : FuncId → Option (Entry E)) (ops : Array Oper) (L : List Lg) (ms : Nat → Mem E) (n0 : Nat) : Tells E := fun i o v ts =>
 refV v = (L.getD i lg0).rf ∧ ∃ m', (wsAt L i ≠ [] → m' = ms (cnt L i + 1)) ∧ YE C ops (ms (cnt L i)) (n0 + wide * cnt L i) o v m' (rsAt L i) (wsAt L i) ts
theorem YL_puts {L : List Lg} {ms : Nat → Mem E} {n0 : Nat} : Puts ops (YL C ops L ms n0) := fun i o v u d ts h =>
 ⟨fun ⟨h1, m', h2, h3⟩ => ⟨h1, m', h2, (YE.put h).1 h3⟩, fun ⟨h1, m', h2, h3⟩ => ⟨h1, m', h2, (YE.put h).2 h3⟩⟩
structure LogOK (ms : Nat → Mem E) (L : List Lg) (n0 k : Nat) : Prop where
 steps : Steps ms L
 num : ∀ e, e < k → (L.getD e lg0).n = n0 + wide * cnt L e
 ref : ∀ e, e < k → ∀ i ∈ (L.getD e lg0).rf, i < n0 + wide * cnt L (e + 1)
 post : ∀ e, e < k → wsAt L e ≠ [] → (L.getD e lg0).pb = posts (ms (cnt L e + 1)) (wsAt L e) ∧ postsLt (n0 + wide * cnt L (e + 1)) (L.getD e lg0).pb = true
theorem allLt_spec {n : Nat} : ∀ {l : List Nat}, allLt n l = true → ∀ i ∈ l, i < n
 | j :: l, h, i, hi => by
  simp only [allLt] at h
  split at h
  ·rename_i hj
   rcases List.mem_cons.1 hi with rfl | hi
   ·simpa using hj
   ·exact allLt_spec h i hi
  ·cases h
theorem seq_of : ∀ (l : List Oper) (n : Nat) (ts : List (AV E)) (m : Mem E) (K : List (AV E) → Mem E → Nat → List Lg → Option R), evOpsE C ops.toList l n ts m K = some r →
  ∃ (ms : Nat → Mem E) (ls : List Lg) (mx : Mem E) (nx : Nat), ms 0 = m ∧ ls.length = l.length ∧ LogOK ms ls n l.length ∧ mx = ms (cnt ls l.length) ∧ nx = n + wide * cnt ls l.length ∧
   ∀ (L : List Lg) (Ms : Nat → Mem E) (n0 k : Nat), (∀ j, j < l.length → L.getD (k + j) lg0 = ls.getD j lg0) → (∀ x, Ms (cnt L k + x) = ms x) → n = n0 + wide * cnt L k → seqY (YL C ops L Ms n0) (fun ts => K ts mx nx ls = some r) l k ts
 | [], n, ts, m, K, h => ⟨fun _ => m, [], m, n, rfl, rfl, ⟨fun e h => absurd rfl h, fun e he => absurd he (Nat.not_lt_zero _), fun e he => absurd he (Nat.not_lt_zero _), fun e he => absurd he (Nat.not_lt_zero _)⟩, rfl, by simp [cnt], fun L Ms n0 k _ _ _ => h⟩
 | o :: l, n, ts, m, K, h => by
  simp only [evOpsE] at h
  obtain ⟨v, m', rs, ws, hy, hq, hp, hk⟩ := YE_of h
  obtain ⟨ms, ls, mx, nx, g1, g2, gO, g3, g4, g5⟩ := seq_of l _ _ m' _ hk
  by_cases hw : ws = []
  ·subst hw
   obtain ⟨rfl, hlow⟩ := hq rfl
   rw [if_pos rfl] at g4 gO
   have hc0 : ∀ e, cnt (⟨rs, [], n, refV v, []⟩ :: ls) (e + 1) = cnt ls e := fun e => by simp [cnt]
   refine ⟨ms, ⟨rs, [], n, refV v, []⟩ :: ls, mx, nx, g1, by simp [g2], ⟨fun e he k hk => ?_, fun e he => ?_, fun e he => ?_, fun e he => ?_⟩, by simp [cnt, g3], by simp [cnt, g4], fun L Ms n0 k hL hM hn => ?_⟩
   ·cases e with
    | zero => exact absurd rfl he
    | succ e => rw [hc0]; exact gO.steps e he k hk
   ·cases e with
    | zero => simp [cnt]
    | succ e => rw [hc0]; exact gO.num e (by simpa using he)
   ·cases e with
    | zero => intro i hi; rw [hc0]; simpa [cnt] using allLt_spec hlow i hi
    | succ e => rw [hc0]; exact gO.ref e (by simpa using he)
   ·cases e with
    | zero => exact fun h => absurd rfl h
    | succ e => rw [hc0, hc0]; exact gO.post e (by simpa using he)
   have hk0 : L.getD k lg0 = ⟨rs, [], n, refV v, []⟩ := by simpa using hL 0 (by simp)
   have hws : wsAt L k = [] := by simp only [wsAt, hk0]
   have hrs : rsAt L k = rs := by simp only [rsAt, hk0]
   have hc : cnt L (k + 1) = cnt L k := by rw [cnt_succ, if_pos hws]; rfl
   refine ⟨v, ⟨by rw [hk0], m', fun h => absurd hws h, ?_⟩, g5 L Ms n0 (k + 1) (fun j hj => ?_) (fun x => ?_) ?_⟩
   ·rw [hws, hrs, ← hn]
    have := hM 0
    rw [Nat.add_zero, g1] at this
    rw [this]
    exact hy
   ·have := hL (j + 1) (by simpa using hj)
    simpa [Nat.add_assoc, Nat.add_comm 1 j] using this
   ·rw [hc]; exact hM x
   ·rw [if_pos rfl, hc]; exact hn
  ·rw [if_neg hw] at g4 gO
   obtain ⟨x0, ws0, rfl⟩ : ∃ x0 ws0, ws = x0 :: ws0 := by
    cases ws with
    | nil => exact absurd rfl hw
    | cons x0 ws0 => exact ⟨x0, ws0, rfl⟩
   obtain ⟨hl1, hl2⟩ := hp hw
   have hc0 : ∀ e, cnt (⟨rs, x0 :: ws0, n, refV v, posts m' (x0 :: ws0)⟩ :: ls) (e + 1) = cnt ls e + 1 := fun e => by simp [cnt, Nat.add_comm 1]
   have hm : ∀ x, n + wide + wide * x = n + wide * (x + 1) := fun x => by rw [Nat.mul_add, Nat.mul_one]; omega
   refine ⟨fun x => match x with
    | 0 => m
    | x + 1 => ms x, ⟨rs, x0 :: ws0, n, refV v, posts m' (x0 :: ws0)⟩ :: ls, mx, nx, rfl, by simp [g2], ⟨fun e he k hk => ?_, fun e he => ?_, fun e he => ?_, fun e he => ?_⟩, by simp [cnt, g3, Nat.add_comm 1], by rw [g4, List.length_cons, hc0, hm], fun L Ms n0 k hL hM hn => ?_⟩
   ·cases e with
    | zero =>
     have := hy.same hw k hk
     simpa [cnt, g1] using this
    | succ e => rw [hc0]; exact gO.steps e he k hk
   ·cases e with
    | zero => simp [cnt]
    | succ e => rw [hc0, ← hm]; exact gO.num e (by simpa using he)
   ·cases e with
    | zero => intro i hi; rw [hc0]; simpa [cnt] using allLt_spec hl1 i hi
    | succ e => rw [hc0, ← hm]; exact gO.ref e (by simpa using he)
   ·cases e with
    | zero =>
     intro _
     rw [hc0]
     refine ⟨?_, by simpa [cnt] using hl2⟩
     simp [wsAt, cnt, g1]
    | succ e => rw [hc0, hc0, ← hm]; exact gO.post e (by simpa using he)
   have hk0 : L.getD k lg0 = ⟨rs, x0 :: ws0, n, refV v, posts m' (x0 :: ws0)⟩ := by simpa using hL 0 (by simp)
   have hws : wsAt L k = x0 :: ws0 := by simp only [wsAt, hk0]
   have hrs : rsAt L k = rs := by simp only [rsAt, hk0]
   have hc : cnt L (k + 1) = cnt L k + 1 := by rw [cnt_succ, if_neg (by rw [hws]; exact hw)]
   refine ⟨v, ⟨by rw [hk0], m', fun _ => ?_, ?_⟩, g5 L Ms n0 (k + 1) (fun j hj => ?_) (fun x => ?_) ?_⟩
   ·rw [hM 1]; exact g1.symm
   ·rw [hws, hrs, ← hn]
    have := hM 0
    rw [Nat.add_zero] at this
    rw [this]
    exact hy
   ·have := hL (j + 1) (by simpa using hj)
    simpa [Nat.add_assoc, Nat.add_comm 1 j] using this
   ·rw [hc, Nat.add_assoc, Nat.add_comm 1 x]; exact hM (x + 1)
   ·rw [if_neg hw, hc, hn, Nat.mul_add, Nat.mul_one, Nat.add_assoc]
theorem memN_false : ∀ {js : List Nat} {i : Nat}, memN i js = false → i ∉ js
 | [], i, h, hm => by cases hm
 | j :: js, i, h, hm => by
  simp only [memN] at h
  split at h
  ·cases h
  ·rename_i hne _
   rcases List.mem_cons.1 hm with rfl | hm
   ·exact hne rfl
   ·exact memN_false h hm
theorem apartN_spec : ∀ {is js : List Nat}, apartN is js = true → ∀ i ∈ is, i ∉ js
 | [], js, h, i, hi => by cases hi
 | k :: is, js, h, i, hi => by
  simp only [apartN] at h
  split at h
  ·cases h
  ·rename_i hm
   rcases List.mem_cons.1 hi with rfl | hi
   ·exact memN_false hm
   ·exact apartN_spec h i hi
theorem mask_bits (A : List Nat) : ∀ (es : List Edge) (i : Nat), Nat.testBit (maskOf A es) i = true → ∃ e ∈ es, Region.binds .any e = true ∧ (e.on = i ∨ ∃ y, geta A e.on = some y ∧ Nat.testBit y i = true)
 | [], i, h => by simp [maskOf] at h
 | e :: es, i, h => by
  simp only [maskOf] at h
  split at h
  ·rename_i hb
   simp only [Nat.testBit_or, Bool.or_eq_true] at h
   rcases h with h | h | h
   ·refine ⟨e, List.mem_cons_self, hb, .inl ?_⟩
    rw [Nat.testBit_two_pow] at h
    simpa using h
   ·refine ⟨e, List.mem_cons_self, hb, .inr ?_⟩
    split at h
    ·exact ⟨_, ‹_›, h⟩
    ·simp at h
   ·obtain ⟨e', h1, h2⟩ := mask_bits A es i h
    exact ⟨e', List.mem_cons_of_mem _ h1, h2⟩
  ·obtain ⟨e', h1, h2⟩ := mask_bits A es i h
   exact ⟨e', List.mem_cons_of_mem _ h1, h2⟩
theorem chkMasks_spec (A : List Nat) : ∀ (l : List Oper) (j : Nat), chkMasks A j l = true → ∀ k o, l[k]? = some o → geta A (j + k) = some (maskOf A o.after.toList) ∧ ∀ e ∈ o.after, Region.binds .any e = true → e.on < j + k
 | [], j, h, k, o, ho => by simp at ho
 | o :: l, j, h, k, o', ho => by
  simp only [chkMasks] at h
  split at h
  ·rename_i x hx
   simp only [Bool.and_eq_true] at h
   obtain ⟨h1, h2, h3⟩ := h
   cases k with
   | zero =>
    simp at ho
    subst ho
    refine ⟨by rw [Nat.add_zero, hx, Nat.eq_of_beq_eq_true h1], fun e he hb => ?_⟩
    have := List.all_eq_true.1 h2 e (by simpa using he)
    simp only [hb, Bool.not_true, Bool.false_or, Nat.blt_eq] at this
    simpa using this
   | succ k =>
    have := chkMasks_spec A l (j + 1) h3 k o' (by simpa using ho)
    simpa [Nat.add_assoc, Nat.add_comm 1 k] using this
  ·cases h
structure Apart (x y : Lg) : Prop where
 ww : ∀ i ∈ x.ws, i ∉ y.ws
 wr : ∀ i ∈ x.ws, i ∉ y.rs
 rw : ∀ i ∈ x.rs, i ∉ y.ws
 rf : x.ws ≠ [] → ∀ i ∈ y.rf, i < x.n ∨ x.n + wide ≤ i
 pb : x.ws ≠ [] → ∀ p ∈ y.pb, (p.1 < x.n ∧ ∀ i ∈ p.2, i < x.n) ∨ (x.n + wide ≤ p.1 ∧ ∀ i ∈ p.2, x.n + wide ≤ i)
theorem allGe_spec {n : Nat} : ∀ {l : List Nat}, allGe n l = true → ∀ i ∈ l, n ≤ i
 | j :: l, h, i, hi => by
  simp only [allGe] at h
  split at h
  ·rename_i hj
   rcases List.mem_cons.1 hi with rfl | hi
   ·simpa using hj
   ·exact allGe_spec h i hi
  ·cases h
theorem awayL_spec {n : Nat} : ∀ {l : List Nat}, awayL n l = true → ∀ i ∈ l, i < n ∨ n + wide ≤ i
 | j :: l, h, i, hi => by
  simp only [awayL, Bool.and_eq_true, Bool.or_eq_true, Nat.blt_eq, Nat.ble_eq] at h
  rcases List.mem_cons.1 hi with rfl | hi
  ·exact h.1
  ·exact awayL_spec h.2 i hi
theorem awayP_spec {n : Nat} : ∀ {l : List (Nat × List Nat)}, awayP n l = true → ∀ p ∈ l, (p.1 < n ∧ ∀ i ∈ p.2, i < n) ∨ (n + wide ≤ p.1 ∧ ∀ i ∈ p.2, n + wide ≤ i)
 | j :: l, h, i, hi => by
  simp only [awayP, Bool.and_eq_true, Bool.or_eq_true, Nat.blt_eq, Nat.ble_eq] at h
  rcases List.mem_cons.1 hi with rfl | hi
  ·exact h.1.imp (fun h => ⟨h.1, allLt_spec h.2⟩) (fun h => ⟨h.1, allGe_spec h.2⟩)
  ·exact awayP_spec h.2 i hi
theorem postsLt_spec {n : Nat} : ∀ {l : List (Nat × List Nat)}, postsLt n l = true → ∀ p ∈ l, p.1 < n ∧ ∀ i ∈ p.2, i < n
 | j :: l, h, i, hi => by
  simp only [postsLt] at h
  split at h
  ·rename_i h1
   split at h
   ·rename_i h2
    rcases List.mem_cons.1 hi with rfl | hi
    ·exact ⟨by simpa using h1, allLt_spec h2⟩
    ·exact postsLt_spec h i hi
   ·cases h
  ·cases h
theorem posts_mem {m : Mem E} : ∀ {l : List Nat} {i : Nat}, i ∈ l → ∀ b, look m i = some b → (i, refB b) ∈ posts m l
 | j :: l, i, hi, b, hb => by
  simp only [posts]
  rcases List.mem_cons.1 hi with rfl | hi
  ·rw [hb]; exact List.mem_cons_self
  ·exact List.mem_cons_of_mem _ (posts_mem hi b hb)
theorem posts_num {m : Mem E} : ∀ {l : List Nat} {i : Nat}, i ∈ l → ∃ p ∈ posts m l, p.1 = i
 | j :: l, i, hi => by
  simp only [posts]
  rcases List.mem_cons.1 hi with rfl | hi
  ·exact ⟨_, List.mem_cons_self, rfl⟩
  ·obtain ⟨p, h1, h2⟩ := posts_num (m := m) hi
   exact ⟨p, List.mem_cons_of_mem _ h1, h2⟩
theorem okPair_spec {x y : Lg} (h : okPair x y = true) : Apart x y := by
 simp only [okPair, Bool.and_eq_true] at h
 obtain ⟨h1, h2, h3, h4⟩ := h
 refine ⟨apartN_spec h1, apartN_spec h2, apartN_spec h3, fun hw => ?_, fun hw => ?_⟩
 ·split at h4
  ·exact absurd ‹_› hw
  ·exact awayL_spec (by simp only [Bool.and_eq_true] at h4; exact h4.1)
 ·split at h4
  ·exact absurd ‹_› hw
  ·exact awayP_spec (by simp only [Bool.and_eq_true] at h4; exact h4.2)
theorem chkRow_spec {A : Nat} {y : Lg} : ∀ (zs : List Lg) (i : Nat), chkRow A y i zs = true → ∀ k z, zs[k]? = some z → Nat.testBit A (i + k) = true ∨ okPair z y = true
 | [], i, h, k, z, hz => by simp at hz
 | z :: zs, i, h, k, z', hz => by
  simp only [chkRow, Bool.and_eq_true, Bool.or_eq_true] at h
  cases k with
  | zero => simp at hz; subst hz; exact h.1
  | succ k =>
   have := chkRow_spec zs (i + 1) h.2 k z' (by simpa using hz)
   simpa [Nat.add_assoc, Nat.add_comm 1 k] using this
theorem chkLog_spec {A : List Nat} {l : List Lg} : ∀ (ys : List Lg) (j : Nat), chkLog A l j ys = true → ∀ k y, ys[k]? = some y → ∃ x, geta A (j + k) = some x ∧ chkRow x y 0 (l.take (j + k)) = true
 | [], j, h, k, y, hy => by simp at hy
 | y :: ys, j, h, k, y', hy => by
  simp only [chkLog] at h
  split at h
  ·rename_i x hx
   simp only [Bool.and_eq_true] at h
   cases k with
   | zero => simp at hy; subst hy; exact ⟨x, by simpa using hx, by simpa using h.1⟩
   | succ k =>
    have := chkLog_spec ys (j + 1) h.2 k y' (by simpa using hy)
    simpa [Nat.add_assoc, Nat.add_comm 1 k] using this
  ·cases h
def Waits (listed : Array Bool) (o : Oper) : Prop := ∀ e ∈ o.after, Region.binds .any e = true → listed.getD e.on false = true
def Closed (ops : Array Oper) (listed : Array Bool) : Prop := ∀ j o, ops[j]? = some o → listed.getD j true = true → Waits listed o
theorem anc_listed {A : List Nat} {ops : Array Oper} (hA : chkMasks A 0 ops.toList = true) {listed : Array Bool} (hs : listed.size = ops.size) (hc : Closed ops listed) :
  ∀ (j : Nat) (o : Oper), ops[j]? = some o → Waits listed o → ∀ i x, geta A j = some x → Nat.testBit x i = true → listed.getD i false = true := by
 intro j
 induction j using Nat.strongRecOn with
 | _ j ih =>
  intro o ho hw i x hx hb
  obtain ⟨h1, h2⟩ := chkMasks_spec A ops.toList 0 hA j o (by simpa using ho)
  rw [Nat.zero_add] at h1 h2
  rw [h1] at hx
  cases hx
  obtain ⟨e, he, hbd, hor⟩ := mask_bits A _ i hb
  have he' : e ∈ o.after := by simpa using he
  have hl := hw e he' hbd
  rcases hor with rfl | ⟨y, hy, hyb⟩
  ·exact hl
  ·have hlt : e.on < listed.size := by
    rcases Nat.lt_or_ge e.on listed.size with h | h
    ·exact h
    ·simp [Array.getElem?_eq_none h] at hl
   have hop : ops[e.on]? = some (ops[e.on]'(hs ▸ hlt)) := Array.getElem?_eq_getElem _
   refine ih e.on (h2 e he' hbd) _ hop (hc e.on _ hop ?_) i y hy hyb
   simpa [hlt] using hl
theorem log_pair {A : List Nat} {ops : Array Oper} {L : List Lg} (hL : chkLog A L 0 L = true) (hlen : L.length = ops.size) {i j : Nat} (hij : i < j) (hj : j < ops.size) :
  ∃ x, geta A j = some x ∧ (Nat.testBit x i = true ∨ Apart (L.getD i lg0) (L.getD j lg0)) := by
 have hj' : j < L.length := hlen ▸ hj
 obtain ⟨x, hx, hr⟩ := chkLog_spec L 0 hL j _ (List.getElem?_eq_getElem hj')
 rw [Nat.zero_add] at hx hr
 refine ⟨x, hx, ?_⟩
 have hi' : i < L.length := Nat.lt_trans hij hj'
 have := chkRow_spec _ 0 hr i (L[i]'hi') (by rw [List.getElem?_take_of_lt hij]; exact List.getElem?_eq_getElem hi')
 rw [Nat.zero_add] at this
 refine this.imp_right fun h => ?_
 have h2 := okPair_spec h
 simpa [List.getD, List.getElem?_eq_getElem hi', List.getElem?_eq_getElem hj'] using h2
def lookS (L : List Lg) (ms : Nat → Mem E) (listed : Array Bool) (id : Nat) : Nat → Option (Blk E)
 | 0 => look (ms 0) id
 | k + 1 => if listed.getD k true = true ∧ id ∈ wsAt L k then look (ms (cnt L k + 1)) id else lookS L ms listed id k
theorem lookS_pre {L : List Lg} {ms : Nat → Mem E} (hS : Steps ms L) {listed : Array Bool} {id : Nat} : ∀ (k : Nat), (∀ e, e < k → id ∈ wsAt L e → listed.getD e true = true) → lookS L ms listed id k = look (ms (cnt L k)) id
 | 0, _ => by simp [lookS, cnt]
 | k + 1, h => by
  have ih := lookS_pre hS k fun e he hi => h e (Nat.lt_succ_of_lt he) hi
  simp only [lookS]
  by_cases hi : id ∈ wsAt L k
  ·have hw : wsAt L k ≠ [] := fun e => by rw [e] at hi; cases hi
   rw [if_pos ⟨h k (Nat.lt_succ_self k) hi, hi⟩, cnt_succ, if_neg hw]
  ·rw [if_neg fun h => hi h.2, ih, cnt_succ]
   by_cases hw : wsAt L k = []
   ·rw [if_pos hw, Nat.add_zero]
   ·rw [if_neg hw, hS k hw id hi]
theorem lookS_drop {L : List Lg} {ms : Nat → Mem E} {listed : Array Bool} {id i : Nat} : ∀ (k : Nat), i ≤ k → (∀ e, i ≤ e → e < k → listed.getD e true = true → id ∉ wsAt L e) → lookS L ms listed id k = lookS L ms listed id i
 | 0, hk, _ => by have : i = 0 := by omega
                  subst this; rfl
 | k + 1, hk, h => by
  by_cases hik : i = k + 1
  ·subst hik; rfl
  ·simp only [lookS]
   rw [if_neg fun hh => h k (by omega) (Nat.lt_succ_self k) hh.1 hh.2]
   exact lookS_drop k (by omega) fun e h1 h2 h3 => h e h1 (Nat.lt_succ_of_lt h2) h3
theorem lookS_set {L : List Lg} {ms : Nat → Mem E} {listed : Array Bool} {id i : Nat} (hi : i < listed.size) (hun : listed.getD i true = false) : ∀ (k : Nat), (∀ e, i < e → e < k → listed.getD e true = true → id ∈ wsAt L i → id ∉ wsAt L e) →
  lookS L ms (listed.setIfInBounds i true) id k = if i < k ∧ id ∈ wsAt L i then look (ms (cnt L i + 1)) id else lookS L ms listed id k
 | 0, _ => by simp [lookS]
 | k + 1, h => by
  have ih := lookS_set (ms := ms) hi hun k fun e h1 h2 h3 h4 => h e h1 (Nat.lt_succ_of_lt h2) h3 h4
  simp only [lookS]
  by_cases hik : i = k
  ·subst hik
   have e1 : (listed.setIfInBounds i true).getD i true = true := by simp [hi]
   rw [e1, hun]
   by_cases hm : id ∈ wsAt L i
   ·rw [if_pos ⟨rfl, hm⟩, if_pos ⟨Nat.lt_succ_self i, hm⟩]
   ·rw [if_neg fun h => hm h.2, if_neg fun h => hm h.2, if_neg fun h => hm h.2, ih, if_neg fun h => hm h.2]
  ·rw [getD_set_ne true hik, ih]
   by_cases hm : id ∈ wsAt L i
   ·by_cases hlt : i < k
    ·have hne : ¬ (listed.getD k true = true ∧ id ∈ wsAt L k) := fun hh => h k hlt (Nat.lt_succ_self k) hh.1 hm hh.2
     rw [if_neg hne, if_pos ⟨hlt, hm⟩, if_pos ⟨by omega, hm⟩]
    ·rw [if_neg (fun hh : i < k ∧ id ∈ wsAt L i => hlt hh.1), if_neg (fun hh : i < k + 1 ∧ id ∈ wsAt L i => by omega)]
   ·rw [if_neg (fun hh : i < k ∧ id ∈ wsAt L i => hm hh.2), if_neg (fun hh : i < k + 1 ∧ id ∈ wsAt L i => hm hh.2)]
theorem lookS_from {L : List Lg} {ms : Nat → Mem E} {listed : Array Bool} {id : Nat} {b : Blk E} : ∀ (k : Nat), lookS L ms listed id k = some b → look (ms 0) id = some b ∨ ∃ e, e < k ∧ listed.getD e true = true ∧ id ∈ wsAt L e ∧ look (ms (cnt L e + 1)) id = some b
 | 0, h => .inl h
 | k + 1, h => by
  simp only [lookS] at h
  split at h
  ·rename_i hh; exact .inr ⟨k, Nat.lt_succ_self k, hh.1, hh.2, h⟩
  ·exact (lookS_from k h).imp_right fun ⟨e, h1, h2⟩ => ⟨e, Nat.lt_succ_of_lt h1, h2⟩
def over (m1 : Mem E) : List Nat → Mem E → Mem E
 | [], m => m
 | i :: is, m => match look m1 i with
  | some b => setm (over m1 is m) i b
  | none => delm (over m1 is m) i
theorem look_over (m1 m : Mem E) (j : Nat) : ∀ (is : List Nat), look (over m1 is m) j = if j ∈ is then look m1 j else look m j
 | [] => by simp [over]
 | i :: is => by
  have ih := look_over m1 m j is
  simp only [over]
  by_cases e : i = j
  ·subst e
   cases h : look m1 i with
   | some b => simp [look_set, h]
   | none => simp [look_del, h]
  ·have e' : ¬ j = i := fun h => e h.symm
   cases h : look m1 i with
   | some b => simp only [look_set, if_neg e, ih, List.mem_cons, e', false_or]
   | none => simp only [look_del, if_neg e, ih, List.mem_cons, e', false_or]
theorem A1r.look {c : A1 E} {u : Value} (h : ∀ i, look m' i = look m i) (hc : A1r E G w m n c u) : A1r E G w m' n c u := by
 cases c with
 | row id => exact ⟨hc.1, hc.2.1, fun d e xs hl => hc.2.2 d e xs (by rw [← h]; exact hl)⟩
 | win id lo k => exact ⟨hc.1, hc.2.1, fun d e xs hl => hc.2.2 d e xs (by rw [← h]; exact hl)⟩
 | bp id off => exact ⟨hc.1, hc.2.1, fun cs hl => hc.2.2 cs (by rw [← h]; exact hl)⟩
 | ap id lo k x => exact ⟨hc.1, hc.2.1, fun cs hl => hc.2.2 cs (by rw [← h]; exact hl)⟩
 | rp id i off => exact ⟨hc.1, hc.2.1, fun d e xs hl => hc.2.2 d e xs (by rw [← h]; exact hl)⟩
 | rv id => exact ⟨hc.1, hc.2.1, fun e xs hl => hc.2.2 e xs (by rw [← h]; exact hl)⟩
 | vp id i off => exact ⟨hc.1, hc.2.1, fun e xs hl => hc.2.2 e xs (by rw [← h]; exact hl)⟩
 | hd id i off => exact ⟨hc.1, hc.2.1, fun e xs hl => hc.2.2 e xs (by rw [← h]; exact hl)⟩
 | hp id i off j o => exact ⟨hc.1, hc.2.1, fun e xs hl => hc.2.2 e xs (by rw [← h]; exact hl)⟩
 | s v => exact hc
 | imm e xs => exact hc
 | ip e x off => exact hc
 | fnp g xs => exact hc
 | fn g ids => exact FnR.keep' hc (Nat.le_refl _) fun p cs _ hl => ⟨rfl, cs, by rw [← h]; exact hl⟩
 | junk => trivial
theorem A2r.look {c : A2 E} {u : Value} (h : ∀ i, B.look m' i = B.look m i) (hc : A2r E G w m n c u) : A2r E G w m' n c u := by
 cases c with
 | c c => exact A1r.look (c := c) h hc
 | g cs => obtain ⟨arr, h1, h2, h3⟩ := hc; exact ⟨arr, h1, h2, fun j c hj => ⟨(h3 j c hj).1.look h, (h3 j c hj).2⟩⟩
theorem AVr.look {c : AV E} {u : Value} (h : ∀ i, B.look m' i = B.look m i) (hc : AVr E G w m n c u) : AVr E G w m' n c u := by
 cases c with
 | v c => exact A2r.look (c := c) h hc
 | tup vs => obtain ⟨arr, h1, h2, h3⟩ := hc; exact ⟨arr, h1, h2, fun j c hj => (h3 j c hj).look h⟩
theorem Tr.look (h : ∀ i, B.look m' i = B.look m i) (hT : Tr E G ts m n a w) : Tr E G ts m' n a w := ⟨hT.df, hT.sz, fun t x hx => (hT.tm t x hx).look h⟩
theorem Mr.look (h : ∀ i, B.look m' i = B.look m i) (hM : Mr E w0 Φ I0 G m n w) : Mr E w0 Φ I0 G m' n w :=
 {hM with
  lt := fun id b hb => hM.lt id b (by rw [← h]; exact hb)
  bl := fun id b hb => by
   have h1 := hM.bl id b (by rw [← h]; exact hb)
   cases b with
   | row d e xs => exact h1
   | rowV e xs => exact h1
   | box cs =>
    obtain ⟨⟨arr, ty, h2, h3⟩, h4⟩ := h1
    exact ⟨⟨arr, ty, h2, h3.1, fun j c hj => ⟨(h3.2 j c hj).1.look h, (h3.2 j c hj).2⟩⟩, h4⟩
  lo := fun id b hb => hM.lo id b (by rw [← h]; exact hb)
  dj := fun id id' b b' hb hb' => hM.dj id id' b b' (by rw [← h]; exact hb) (by rw [← h]; exact hb')
  an := fun j cs hj hl => hM.an j cs hj (by rw [← h]; exact hl)
  ar := fun j d e xs hj hl => hM.ar j d e xs hj (by rw [← h]; exact hl) }
theorem A1r.refs {c : A1 E} {u : Value} (h : A1r E G w m n c u) : ∀ i ∈ refA c, i < n := by
 cases c with
 | fn g ids =>
  have h' : FnR E G m n g ids u := h
  exact fun i hi => idsF_lt h'.2.1 (by simpa only [refA] using hi)
 | _ => simp only [refA, List.mem_singleton, List.not_mem_nil, forall_eq, false_imp_iff, implies_true] <;> exact h.1
theorem A1l.refs {cs : List (A1 E)} {arr : Array Value} (h : A1l E G w m n cs arr) : ∀ i ∈ refL cs, i < n := by
 have : ∀ (l : List (A1 E)), (∀ c ∈ l, ∀ i ∈ refA c, i < n) → ∀ i ∈ refL l, i < n := fun l => by
  induction l with
  | nil => intro _ i hi; cases hi
  | cons c l ih =>
   intro hl i hi
   rcases List.mem_append.1 hi with h1 | h1
   ·exact hl c List.mem_cons_self i h1
   ·exact ih (fun d hd => hl d (List.mem_cons_of_mem _ hd)) i h1
 refine this cs fun c hc => ?_
 obtain ⟨j, hj⟩ := List.mem_iff_getElem?.1 hc
 exact (h.2 j c hj).1.refs
theorem A2r.refs {c : A2 E} {u : Value} (h : A2r E G w m n c u) : ∀ i ∈ refA2 c, i < n := by
 cases c with
 | c c => exact A1r.refs (c := c) h
 | g cs => obtain ⟨arr, h1, h2⟩ := h; exact h2.refs
theorem AVr.refs {x : AV E} {u : Value} (h : AVr E G w m n x u) : ∀ i ∈ refV x, i < n := by
 cases x with
 | v x => exact A2r.refs (c := x) h
 | tup vs =>
  obtain ⟨arr, h1, h2, h3⟩ := h
  have : ∀ (l : List (A2 E)), (∀ c ∈ l, ∀ i ∈ refA2 c, i < n) → ∀ i ∈ refL2 l, i < n := fun l => by
   induction l with
   | nil => intro _ i hi; cases hi
   | cons c l ih =>
    intro hl i hi
    rcases List.mem_append.1 hi with h1 | h1
    ·exact hl c List.mem_cons_self i h1
    ·exact ih (fun d hd => hl d (List.mem_cons_of_mem _ hd)) i h1
  refine this vs fun c hc => ?_
  obtain ⟨j, hj⟩ := List.mem_iff_getElem?.1 hc
  exact (h3 j c hj).refs
theorem A1r.to_refs {k : Nat} {c : A1 E} {u : Value} (h : A1r E G w m n c u) (hl : ∀ i ∈ refA c, i < k) : A1r E G w m k c u := by
 cases c with
 | row id => exact ⟨hl id (by simp [refA]), h.2⟩
 | win id lo k => exact ⟨hl id (by simp [refA]), h.2⟩
 | bp id off => exact ⟨hl id (by simp [refA]), h.2⟩
 | rp id i off => exact ⟨hl id (by simp [refA]), h.2⟩
 | ap id lo k x => exact ⟨hl id (by simp [refA]), h.2⟩
 | rv id => exact ⟨hl id (by simp [refA]), h.2⟩
 | vp id i off => exact ⟨hl id (by simp [refA]), h.2⟩
 | hd id i off => exact ⟨hl id (by simp [refA]), h.2⟩
 | hp id i off j o => exact ⟨hl id (by simp [refA]), h.2⟩
 | s v => exact h
 | imm e xs => exact h
 | ip e x off => exact h
 | fnp g xs => exact h
 | fn g ids =>
  have h' : FnR E G m n g ids u := h
  exact ⟨h'.1, fun p hp => hl p.1 (by simp only [refA]; exact idsF_mem hp), h'.2.2⟩
 | junk => trivial
theorem A2r.to_refs {k : Nat} {c : A2 E} {u : Value} (h : A2r E G w m n c u) (hl : ∀ i ∈ refA2 c, i < k) : A2r E G w m k c u := by
 cases c with
 | c c => exact A1r.to_refs (c := c) h hl
 | g cs => obtain ⟨arr, h1, h2, h3⟩ := h; exact ⟨arr, h1, h2, fun j c hj => ⟨(h3 j c hj).1.to_refs fun i hi => hl i (refL_mem (List.mem_of_getElem? hj) i hi), (h3 j c hj).2⟩⟩
theorem AVr.to_refs {k : Nat} {c : AV E} {u : Value} (h : AVr E G w m n c u) (hl : ∀ i ∈ refV c, i < k) : AVr E G w m k c u := by
 cases c with
 | v c => exact A2r.to_refs (c := c) h hl
 | tup vs => obtain ⟨arr, h1, h2, h3⟩ := h; exact ⟨arr, h1, h2, fun j c hj => (h3 j c hj).to_refs fun i hi => hl i (refL2_mem (List.mem_of_getElem? hj) i hi)⟩
theorem Mr.to_old {G' : Gh} {n' : Nat} (h : Mr E w0 Φ I0 G m n w) (h' : Mr E w0 Φ I0 G' m n' w') : Mr E w0 Φ I0 G' m n w' :=
 {h' with
  lt := h.lt
  nn := h.nn
  bl := fun id b hb => by
   have h1 := h'.bl id b hb
   cases b with
   | row d e xs => exact h1
   | rowV e xs => exact h1
   | box cs =>
    obtain ⟨⟨arr, ty, h2, h3⟩, h4⟩ := h1
    obtain ⟨⟨arr0, ty0, _, h5⟩, _⟩ := h.bl id _ hb
    exact ⟨⟨arr, ty, h2, h3.1, fun j c hj => ⟨(h3.2 j c hj).1.to_refs fun i hi => h5.refs i (refL_mem (List.mem_of_getElem? hj) i hi), (h3.2 j c hj).2⟩⟩, h4⟩ }
theorem Tr.to_old {G' : Gh} {n' : Nat} {a' : Act} (h : Tr E G ts m n a w) (h' : Tr E G' ts m n' a' w') : Tr E G' ts m n a' w' :=
 ⟨h'.df, h'.sz, fun t x ht => (h'.tm t x ht).to_refs fun i hi => (h.tm t x ht).refs i hi⟩
theorem lowRd_spec {q : Nat} {m : Mem E} : ∀ {l : List Nat}, lowRd q m l = true → ∀ i ∈ l, i < q ∧ ∀ b, look m i = some b → ∀ r ∈ refB b, r < q
 | j :: l, h, i, hi => by
  simp only [lowRd] at h
  cases h1 : Nat.blt j q with
  | false => rw [h1] at h; cases h
  | true =>
   rw [h1] at h
   cases h2 : look m j with
   | none =>
    rw [h2] at h
    rcases List.mem_cons.1 hi with rfl | hi
    ·exact ⟨by simpa using h1, fun b' hb' => by rw [h2] at hb'; cases hb'⟩
    ·exact lowRd_spec h i hi
   | some b =>
    rw [h2] at h
    simp only at h
    split at h
    ·rename_i h3
     rcases List.mem_cons.1 hi with rfl | hi
     ·exact ⟨by simpa using h1, fun b' hb' => by rw [h2] at hb'; cases hb'; exact allLt_spec h3⟩
     ·exact lowRd_spec h i hi
    ·cases h
theorem lowOps_spec {q : Nat} : ∀ {l : List Operand}, lowOps ts q l = true → ∀ x ∈ l, ∀ r ∈ refV (Aeval ts x), r < q
 | y :: l, h, x, hx => by
  simp only [lowOps] at h
  split at h
  ·rename_i h1
   rcases List.mem_cons.1 hx with rfl | hx
   ·exact allLt_spec h1
   ·exact lowOps_spec h x hx
  ·cases h
end
end Go.B
