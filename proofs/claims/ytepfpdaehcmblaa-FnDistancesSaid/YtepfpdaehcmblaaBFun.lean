/- A whole function: what the reckoner says of the program's. -/
import Derived.Test.YtepfpdaehcmblaaBLoop
namespace Go.B
open Go Go.RowKit
set_option linter.unusedVariables false
set_option linter.unusedSimpArgs false
variable {E : Env} {P : Program}
section
variable {G : Gh} {w w0 w1 w' : World} {m m' m1 m2 : Mem E} {n : Nat} {Φ Ψ : Nat → Prop} {I0 : Ent} {ts : List (AV E)} {a : Act} {res : Res E}
theorem backCs_get : ∀ {as : List (A1 E)} {cs : List (Cell E.T)}, backCs as = some cs → cs.length = as.length ∧ ∀ (j : Nat) (c : Cell E.T), cs[j]? = some c → ∃ b, as[j]? = some b ∧ backC b = some c
 | [], cs, h => by simp only [backCs] at h; cases h; exact ⟨rfl, fun j c hj => by simp at hj⟩
 | b :: as, cs, h => by
  simp only [backCs] at h
  split at h
  ·rename_i c hc
   split at h
   ·rename_i cs' hcs
    cases h
    obtain ⟨h1, h2⟩ := backCs_get hcs
    refine ⟨by simp [h1], fun j c' hj => ?_⟩
    cases j with
    | zero => simp at hj; subst hj; exact ⟨b, by simp, hc⟩
    | succ j => simpa using h2 j c' (by simpa using hj)
   ·cases h
  ·cases h
theorem backC_rd {b : A1 E} {c : Cell E.T} (h : backC b = some c) {u : Value} (hr : A1r E G w m n b u) : Rd E w G.I u c := by
 cases b with
 | s v => simp only [backC] at h; cases h; obtain ⟨rfl, h1⟩ := hr; exact .s h1
 | imm e xs => simp only [backC] at h; cases h; exact hr
 | _ => simp [backC] at h
theorem boxR_of (hM : Mr E w0 Φ I0 G m n w) {id : Nat} {cs : List (A1 E)} (hl : look m id = some (.box cs)) {us : List (Cell E.T)} (hb : backCs cs = some us) : BoxR E w G.I (G.bk id) us := by
 obtain ⟨⟨arr, ty, h1, h2⟩, h3⟩ := hM.bl id _ hl
 obtain ⟨g1, g2⟩ := backCs_get hb
 refine ⟨arr, ty, h1, by rw [h2.1, g1], fun j c hj => ?_⟩
 obtain ⟨b, hb1, hb2⟩ := g2 j c hj
 exact backC_rd hb2 (h2.2 j b hb1).1
theorem ownsG_take {w : World} {e : TypeId} {s n l : Nat} {v : Value} {xs : List Value} (h : w.ownsRowG 0 e s v n xs) (hl : l ≤ n) : w.ownsRowG 0 e s (winV s 0 l v) l (xs.take (l * s)) ∧ ∀ k, (winV s 0 l v).ownBlock = some k → v.ownBlock = some k := by
 have hls : l * s ≤ n * s := Nat.mul_le_mul_right _ hl
 have hx : (xs.take (l * s)).length = l * s := by rw [List.length_take, h.1]; omega
 rcases h.2 with ⟨rfl, h0⟩ | ⟨g, cap, cur, rfl, hb, hg, hnc, hcm, hcs, htake, hlo⟩
 ·obtain rfl : l = 0 := by omega
  exact ⟨⟨hx, .inl ⟨by simp [winV], rfl⟩⟩, fun k hk => by simp [winV, Value.ownBlock] at hk⟩
 ·have e1 : winV s 0 l (.slice (some ⟨g, 0, none⟩) n cap) = .slice (some ⟨g, 0, none⟩) l cap := by simp [winV, Addr.add]
  rw [e1]
  refine ⟨⟨hx, .inr ⟨g, cap, cur, rfl, hb, hg, Nat.le_trans hl hnc, hcm, hcs, ?_, hlo⟩⟩, fun k hk => hk⟩
  rw [← htake, List.take_take, Nat.min_eq_left hls]
theorem outA1_sound (hM : Mr E w0 Φ I0 G m n w) {x : A1 E} {u : Value} (hr : A1r E G w m n x u) {k : R1 E → Mem E → Option (Res E)} (h : outA1 x m k = some res) :
  ∃ (q : R1 E) (m' : Mem E) (fp : Nat → Prop), k q m' = some res ∧ Mr E w0 Φ I0 G m' n w ∧ Sub m m' ∧ R1r E w G.I fp q u ∧ ∀ y, fp y → Gone G m m' y := by
 unfold outA1 at h
 split at h
 ·exact ⟨_, m, fun _ => False, h, hM, Sub.refl m, hr, fun _ h => h.elim⟩
 ·exact ⟨_, m, fun _ => False, h, hM, Sub.refl m, hr, fun _ h => h.elim⟩
 ·rename_i id
  split at h
  ·rename_i d e xs hl
   rw [delmK_eq] at h
   have htop : Top E w G.I d (G.fp id) (G.hd id) e xs := hM.bl id _ hl
   refine ⟨_, _, G.fp id, h, hM.del id, Sub.del m id, ?_, fun y hy => ⟨id, _, hl, by rw [look_del, if_pos rfl], hy⟩⟩
   rw [hr.2.2 _ _ _ hl]; exact htop
  ·cases h
 ·rename_i id lo l
  split at h
  ·rename_i h0
   subst h0
   split at h
   ·rename_i d e xs hl
    rw [delmK_eq] at h
    obtain ⟨inner, F, ho, hb, hf, hd, hin⟩ : Top E w G.I d (G.fp id) (G.hd id) e xs := hM.bl id _ hl
    obtain ⟨h1, h2⟩ := hr.2.2 _ _ _ hl
    have hxl : (xs.take l).length = l := by rw [List.length_take]; omega
    obtain ⟨o1, o2⟩ := ownsG_take ho (l := l) (by omega)
    refine ⟨_, _, G.fp id, h, hM.del id, Sub.del m id, ?_, fun y hy => ⟨id, _, hl, by rw [look_del, if_pos rfl], hy⟩⟩
    show Top E w G.I d (G.fp id) u e (xs.take l)
    rw [h2]
    refine ⟨inner.take (l * E.sz e), F, by rw [hxl]; exact o1, fun k hk => hb k (o2 k hk), fun i j k hi hj hk => ?_, fun i j i' j' k hi hj hi' hj' => hd i j i' j' k (by omega) hj (by omega) hj', fun i j hi hj => ?_⟩
    ·have := hf i j k (by omega) hj hk
     exact ⟨this.1, fun h3 => this.2 (o2 k h3)⟩
    ·rw [hxl] at hi
     have e1 : (inner.take (l * E.sz e)).getD (i * E.sz e + j) undef = inner.getD (i * E.sz e + j) undef := by
      simp only [List.getD_eq_getElem?_getD, List.getElem?_take]
      rw [if_pos (lt_of_pair hi hj)]
     have e2 : (xs.take l).getD i (E.dflt e) = xs.getD i (E.dflt e) := by
      simp only [List.getD_eq_getElem?_getD, List.getElem?_take]
      rw [if_pos hi]
     rw [e1, e2]
     exact hin i j (by omega) hj
   ·cases h
  ·cases h
 ·rename_i id
  split at h
  ·rename_i cs hl
   split at h
   ·rename_i us hus
    rw [delmK_eq] at h
    obtain ⟨⟨arr, ty, h1, h2⟩, h3⟩ := hM.bl id _ hl
    exact ⟨_, _, G.fp id, h, hM.del id, Sub.del m id, ⟨G.bk id, hr.2.2 _ hl, boxR_of hM hl hus, h3⟩, fun y hy => ⟨id, _, hl, by rw [look_del, if_pos rfl], hy⟩⟩
   ·cases h
  ·cases h
 ·cases h
theorem Gone.l {m1 m2 : Mem E} {k : Nat} (h : Gone G m m1 k) (hs : Sub m1 m2) : Gone G m m2 k := by obtain ⟨id, b, h1, h2, h3⟩ := h; exact ⟨id, b, h1, hs.none h2, h3⟩
theorem Gone.r {m1 m2 : Mem E} {k : Nat} (hs : Sub m m1) (h : Gone G m1 m2 k) : Gone G m m2 k := by obtain ⟨id, b, h1, h2, h3⟩ := h; exact ⟨id, b, hs _ _ h1, h2, h3⟩
theorem Gone.apart (hM : Mr E w0 Φ I0 G m n w) (hs : Sub m m1) {k : Nat} (h : Gone G m m1 k) (h' : Gone G m1 m2 k) : False := by
 obtain ⟨id, b, h1, h2, h3⟩ := h
 obtain ⟨id', b', g1, g2, g3⟩ := h'
 exact hM.dj id id' b b' h1 (hs _ _ g1) (fun e => by subst e; rw [g1] at h2; cases h2) k h3 g3
theorem outA1s_sound : ∀ (as : List (A1 E)) {m : Mem E} (val : Nat → Value), Mr E w0 Φ I0 G m n w → (∀ (j : Nat) (b : A1 E), as[j]? = some b → A1r E G w m n b (val j)) → ∀ {k : List (R1 E) → Mem E → Option (Res E)}, outA1s as m k = some res →
  ∃ (rs : List (R1 E)) (m' : Mem E) (fp : Nat → Nat → Prop), k rs m' = some res ∧ Mr E w0 Φ I0 G m' n w ∧ Sub m m' ∧ rs.length = as.length ∧ (∀ (j : Nat) (q : R1 E), rs[j]? = some q → R1r E w G.I (fp j) q (val j)) ∧
   (∀ j y, fp j y → Gone G m m' y) ∧ ∀ j j' y, fp j y → fp j' y → j = j'
 | [], m, val, hM, hr, k, h => ⟨[], m, fun _ _ => False, h, hM, Sub.refl m, rfl, fun j q hj => by simp at hj, fun _ _ h => h.elim, fun _ _ _ h => h.elim⟩
 | x :: as, m, val, hM, hr, k, h => by
  simp only [outA1s] at h
  obtain ⟨q, m1, fp1, h, g1, g2, g3, g4⟩ := outA1_sound hM (hr 0 x rfl) h
  obtain ⟨rs, m', fp, h, f1, f2, f3, f4, f5, f6⟩ := outA1s_sound as (fun j => val (j + 1)) g1 (fun j b hj => (hr (j + 1) b (by simpa using hj)).keep g2.mle (Nat.le_refl _) fun k hk => ⟨hk, rfl⟩) h
  refine ⟨q :: rs, m', fun j => match j with | 0 => fp1 | j + 1 => fp j, h, f1, g2.trans f2, by simp [f3], fun j q' hj => ?_, fun j y hy => ?_, fun j j' y hy hy' => ?_⟩
  ·cases j with
   | zero => simp at hj; subst hj; exact g3
   | succ j => exact f4 j q' (by simpa using hj)
  ·cases j with
   | zero => exact (g4 y hy).l f2
   | succ j => exact (f5 j y hy).r g2
  ·cases j with
   | zero =>
    cases j' with
    | zero => rfl
    | succ j' => exact ((g4 y hy).apart hM g2 (f5 j' y hy')).elim
   | succ j =>
    cases j' with
    | zero => exact ((g4 y hy').apart hM g2 (f5 j y hy)).elim
    | succ j' => rw [f6 j j' y hy hy']
theorem outA2_sound {m : Mem E} (hM : Mr E w0 Φ I0 G m n w) {x : A2 E} {u : Value} (hr : A2r E G w m n x u) {k : R2 E → Mem E → Option (Res E)} (h : outA2 x m k = some res) :
  ∃ (q : R2 E) (m' : Mem E) (fp : Nat → Nat → Prop), k q m' = some res ∧ Mr E w0 Φ I0 G m' n w ∧ Sub m m' ∧ R2r E w G.I fp q u ∧ (∀ j y, fp j y → Gone G m m' y) ∧ ∀ j j' y, fp j y → fp j' y → j = j' := by
 cases x with
 | c x =>
  simp only [outA2] at h
  obtain ⟨q, m1, fp1, h, g1, g2, g3, g4⟩ := outA1_sound hM hr h
  exact ⟨_, m1, fun j y => j = 0 ∧ fp1 y, h, g1, g2, by
   show R1r E w G.I (fun y => 0 = 0 ∧ fp1 y) q u
   have : (fun y => 0 = 0 ∧ fp1 y) = fp1 := by funext y; simp
   rw [this]; exact g3, fun j y hy => g4 y hy.2, fun j j' y hy hy' => hy.1.trans hy'.1.symm⟩
 | g as =>
  simp only [outA2] at h
  obtain ⟨arr, rfl, h1⟩ := hr
  obtain ⟨rs, m', fp, h, f1, f2, f3, f4, f5, f6⟩ := outA1s_sound as (fun j => arr.getD j undef) hM (fun j b hj => (h1.2 j b hj).1) h
  exact ⟨_, m', fp, h, f1, f2, ⟨arr, rfl, by rw [h1.1, f3], f4⟩, f5, f6⟩
theorem outVs_sound : ∀ (as : List (AV E)) {m : Mem E} (val : Nat → Value), Mr E w0 Φ I0 G m n w → (∀ (j : Nat) (b : AV E), as[j]? = some b → AVr E G w m n b (val j)) → ∀ {k : List (R2 E) → Mem E → Option (Res E)}, outVs as m k = some res →
  ∃ (rs : List (R2 E)) (m' : Mem E) (fp : Nat → Nat → Nat → Prop), k rs m' = some res ∧ Mr E w0 Φ I0 G m' n w ∧ Sub m m' ∧ rs.length = as.length ∧ (∀ (j : Nat) (q : R2 E), rs[j]? = some q → R2r E w G.I (fp j) q (val j)) ∧
   (∀ i j y, fp i j y → Gone G m m' y) ∧ ∀ i j i' j' y, fp i j y → fp i' j' y → i = i' ∧ j = j'
 | [], m, val, hM, hr, k, h => ⟨[], m, fun _ _ _ => False, h, hM, Sub.refl m, rfl, fun j q hj => by simp at hj, fun _ _ _ h => h.elim, fun _ _ _ _ _ h => h.elim⟩
 | .tup vs :: as, m, val, hM, hr, k, h => by simp only [outVs] at h; cases h
 | .v x :: as, m, val, hM, hr, k, h => by
  simp only [outVs] at h
  obtain ⟨q, m1, fp1, h, g1, g2, g3, g4, g5⟩ := outA2_sound hM (hr 0 (.v x) rfl) h
  obtain ⟨rs, m', fp, h, f1, f2, f3, f4, f5, f6⟩ := outVs_sound as (fun j => val (j + 1)) g1 (fun j b hj => (hr (j + 1) b (by simpa using hj)).keep g2.mle (Nat.le_refl _) fun k hk => ⟨hk, rfl⟩) h
  refine ⟨q :: rs, m', fun i => match i with | 0 => fp1 | i + 1 => fp i, h, f1, g2.trans f2, by simp [f3], fun j q' hj => ?_, fun i j y hy => ?_, fun i j i' j' y hy hy' => ?_⟩
  ·cases j with
   | zero => simp at hj; subst hj; exact g3
   | succ j => exact f4 j q' (by simpa using hj)
  ·cases i with
   | zero => exact (g4 j y hy).l f2
   | succ i => exact (f5 i j y hy).r g2
  ·cases i with
   | zero =>
    cases i' with
    | zero => exact ⟨rfl, g5 j j' y hy hy'⟩
    | succ i' => exact ((g4 j y hy).apart hM g2 (f5 i' j' y hy')).elim
   | succ i =>
    cases i' with
    | zero => exact ((g4 j' y hy').apart hM g2 (f5 i j y hy)).elim
    | succ i' => obtain ⟨e1, e2⟩ := f6 i j i' j' y hy hy'; exact ⟨by rw [e1], e2⟩
theorem backL_sound {m : Mem E} : ∀ (cs : List (Cell E.T)) (i : Nat) {us : List (Cell E.T)}, backL i cs m = some us →
  us.length = cs.length ∧ ∀ (l : Nat) (e : TypeId) (xs : List (E.T e)), cs[l]? = some (.wr e xs) → (∃ e' xs', look m (i + l) = some (.row true e' xs') ∧ us[l]? = some (.sl e' xs')) ∨ (look m (i + l) = none ∧ us[l]? = some (.s (.bool false)))
 | [], i, us, h => by simp only [backL] at h; cases h; exact ⟨rfl, fun l e xs hl => by simp at hl⟩
 | c :: cs, i, us, h => by
  have rest : ∀ (x : Cell E.T) (us' : List (Cell E.T)), backL (i + 1) cs m = some us' → us = x :: us' → (∀ e xs, c = .wr e xs → (∃ e' xs', look m i = some (.row true e' xs') ∧ x = .sl e' xs') ∨ (look m i = none ∧ x = .s (.bool false))) →
    us.length = (c :: cs).length ∧ ∀ (l : Nat) (e : TypeId) (xs : List (E.T e)), (c :: cs)[l]? = some (.wr e xs) → (∃ e' xs', look m (i + l) = some (.row true e' xs') ∧ us[l]? = some (.sl e' xs')) ∨ (look m (i + l) = none ∧ us[l]? = some (.s (.bool false))) := fun x us' h' he hc => by
   subst he
   obtain ⟨h1, h2⟩ := backL_sound cs (i + 1) h'
   refine ⟨by simp [h1], fun l e xs hl => ?_⟩
   cases l with
   | zero =>
    simp at hl
    rcases hc e xs hl with ⟨e', xs', q1, q2⟩ | ⟨q1, q2⟩
    ·exact .inl ⟨e', xs', q1, by simp [q2]⟩
    ·exact .inr ⟨q1, by simp [q2]⟩
   | succ l =>
    rcases h2 l e xs (by simpa using hl) with ⟨e', xs', q1, q2⟩ | ⟨q1, q2⟩
    ·rw [Nat.add_assoc, Nat.add_comm 1 l] at q1
     exact .inl ⟨e', xs', q1, by simpa using q2⟩
    ·rw [Nat.add_assoc, Nat.add_comm 1 l] at q1
     exact .inr ⟨q1, by simpa using q2⟩
  cases c with
  | wr e xs =>
   simp only [backL] at h
   split at h
   ·rename_i e' xs' hb
    split at h
    ·rename_i us' hus
     cases h
     exact rest _ us' hus rfl fun e2 xs2 _ => .inl ⟨e', xs', hb, rfl⟩
    ·cases h
   ·rename_i hb
    split at h
    ·rename_i us' hus
     cases h
     exact rest _ us' hus rfl fun e2 xs2 _ => .inr ⟨hb, rfl⟩
    ·cases h
   ·cases h
  | s v =>
   simp only [backL] at h
   split at h
   ·rename_i us' hus
    cases h
    exact rest _ us' hus rfl fun e2 xs2 he => by cases he
   ·cases h
  | sl e xs =>
   simp only [backL] at h
   split at h
   ·rename_i us' hus
    cases h
    exact rest _ us' hus rfl fun e2 xs2 he => by cases he
   ·cases h
theorem hasWL_false : ∀ {cs : List (Cell E.T)} {l : Nat} {e : TypeId} {xs : List (E.T e)}, hasWL cs = false → cs[l]? = some (.wr e xs) → False
 | [], l, e, xs, _, h => by simp at h
 | .wr _ _ :: cs, l, e, xs, hw, h => by simp [hasWL] at hw
 | .s v :: cs, 0, e, xs, hw, h => by simp at h
 | .sl _ _ :: cs, 0, e, xs, hw, h => by simp at h
 | .s v :: cs, l + 1, e, xs, hw, h => hasWL_false (cs := cs) (l := l) (by simpa [hasWL] using hw) (by simpa using h)
 | .sl _ _ :: cs, l + 1, e, xs, hw, h => hasWL_false (cs := cs) (l := l) (by simpa [hasWL] using hw) (by simpa using h)
theorem backM_sound {m : Mem E} (hM : Mr E w0 Φ I0 G m n w) {b : Nat} : ∀ (ps : List (P2 E)) (i : Nat) {us : List (List (Cell E.T))}, backM b i ps m = some us →
  us.length = ps.length ∧ (∀ (j : Nat) (cs : List (Cell E.T)), ps[j]? = some (.v (.ptr cs)) → ∃ bs, look m (i + j) = some (.box bs)) ∧ (∀ (j : Nat) (cs u : List (Cell E.T)), ps[j]? = some (.v (.ptr cs)) → us[j]? = some u → BoxR E w G.I (G.bk (i + j)) u) ∧
   ∀ (j : Nat) (p : P2 E) (l : Nat) (e : TypeId) (xs : List (E.T e)), ps[j]? = some p → (pcells p)[l]? = some (.wr e xs) → ∃ u, us[j]? = some u ∧ ((∃ e' xs', u[l]? = some (.sl e' xs') ∧ look m (wid b (i + j) l) = some (.row true e' xs')) ∨ (u[l]? = some (.s (.bool false)) ∧ look m (wid b (i + j) l) = none))
 | [], i, us, h => by simp only [backM] at h; cases h; exact ⟨rfl, fun j cs hj => by simp at hj, fun j cs u hj => by simp at hj, fun j p l e xs hj => by simp at hj⟩
 | p :: ps, i, us, h => by
  have rec_ : ∀ (x : List (Cell E.T)) (us' : List (List (Cell E.T))), backM b (i + 1) ps m = some us' → us = x :: us' → (∀ cs, p = .v (.ptr cs) → ∃ bs, look m i = some (.box bs) ∧ backCs bs = some x) →
    (∀ (l : Nat) (e : TypeId) (xs : List (E.T e)), (pcells p)[l]? = some (.wr e xs) → (∃ e' xs', look m (wid b i 0 + l) = some (.row true e' xs') ∧ x[l]? = some (.sl e' xs')) ∨ (look m (wid b i 0 + l) = none ∧ x[l]? = some (.s (.bool false)))) →
    us.length = (p :: ps).length ∧ (∀ (j : Nat) (cs : List (Cell E.T)), (p :: ps)[j]? = some (.v (.ptr cs)) → ∃ bs, look m (i + j) = some (.box bs)) ∧ (∀ (j : Nat) (cs u : List (Cell E.T)), (p :: ps)[j]? = some (.v (.ptr cs)) → us[j]? = some u → BoxR E w G.I (G.bk (i + j)) u) ∧
    ∀ (j : Nat) (p' : P2 E) (l : Nat) (e : TypeId) (xs : List (E.T e)), (p :: ps)[j]? = some p' → (pcells p')[l]? = some (.wr e xs) → ∃ u, us[j]? = some u ∧ ((∃ e' xs', u[l]? = some (.sl e' xs') ∧ look m (wid b (i + j) l) = some (.row true e' xs')) ∨ (u[l]? = some (.s (.bool false)) ∧ look m (wid b (i + j) l) = none)) := by
   intro x us' h' he hp hw
   subst he
   obtain ⟨h1, h2, h3, h4⟩ := backM_sound hM ps (i + 1) h'
   refine ⟨by simp [h1], fun j cs hj => ?_, fun j cs u hj hu => ?_, fun j p' l e xs hj hl => ?_⟩
   ·cases j with
    | zero => simp at hj; obtain ⟨bs, e1, _⟩ := hp cs hj; exact ⟨bs, e1⟩
    | succ j => have := h2 j cs (by simpa using hj); rwa [Nat.add_assoc, Nat.add_comm 1 j] at this
   ·cases j with
    | zero => simp at hj hu; subst hu; obtain ⟨bs, e1, e2⟩ := hp cs hj; exact boxR_of hM e1 e2
    | succ j => have := h3 j cs u (by simpa using hj) (by simpa using hu); rwa [Nat.add_assoc, Nat.add_comm 1 j] at this
   ·cases j with
    | zero =>
     simp at hj; subst hj
     rw [show wid b (i + 0) l = wid b i 0 + l by simp only [wid]; omega]
     rcases hw l e xs hl with ⟨e', xs', q1, q2⟩ | ⟨q1, q2⟩
     ·exact ⟨x, rfl, .inl ⟨e', xs', q2, q1⟩⟩
     ·exact ⟨x, rfl, .inr ⟨q2, q1⟩⟩
    | succ j =>
     obtain ⟨u, q1, q2⟩ := h4 j p' l e xs (by simpa using hj) hl
     rw [Nat.add_assoc, Nat.add_comm 1 j] at q2
     exact ⟨u, by simpa using q1, q2⟩
  unfold backM at h
  split at h
  ·rename_i h1; cases h1
  ·rename_i h1
   cases h1
   split at h
   ·rename_i bs hb
    split at h
    ·rename_i u us' hu hus
     cases h
     exact rec_ u us' hus rfl (fun cs e => ⟨bs, hb, hu⟩) (fun l e xs hl => by simp [pcells] at hl)
    ·cases h
   ·cases h
  ·rename_i h1
   cases h1
   split at h
   ·rename_i u us' hu hus
    cases h
    exact rec_ u us' hus rfl (fun cs e => by cases e) (fun l e xs hl => (backL_sound _ _ hu).2 l e xs hl)
   ·cases h
  ·rename_i cs h1
   cases h1
   split at h
   ·split at h
    ·rename_i u us' hu hus
     cases h
     exact rec_ u us' hus rfl (fun cs e => by cases e) (fun l e xs hl => (backL_sound _ _ hu).2 l e xs hl)
    ·cases h
   ·rename_i hw
    split at h
    ·rename_i us' hus
     cases h
     exact rec_ [] us' hus rfl (fun cs e => by cases e) (fun l e xs hl => (hasWL_false hw hl).elim)
    ·cases h
  ·rename_i hne hnw hng h1
   cases h1
   split at h
   ·rename_i us' hus
    cases h
    refine rec_ [] us' hus rfl (fun cs e => absurd e (by intro e; exact hne _ e)) (fun l e xs hl => ?_)
    cases p with
    | v p =>
     cases p with
     | c c =>
      cases l with
      | zero => simp [pcells] at hl; subst hl; exact (hnw _ _ rfl).elim
      | succ l => simp [pcells] at hl
     | ptr cs => exact (hne _ rfl).elim
     | ro e x => simp [pcells] at hl
     | fn f xs => simp [pcells] at hl
    | g cs => exact (hng _ rfl).elim
   ·cases h
end
end Go.B
