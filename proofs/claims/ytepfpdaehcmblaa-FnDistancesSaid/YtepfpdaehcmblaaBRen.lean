/- Numbers of rows: another one, those below one alone. -/
import Derived.Test.YtepfpdaehcmblaaBCode
namespace Go.B
open Go Go.RowKit
set_option linter.unusedVariables false
set_option linter.unusedSimpArgs false
variable {E : Env} {P : Program}
section
variable {R : Type} {G : Gh} {w w0 w1 w' : World} {m m' m1 m2 : Mem E} {n : Nat} {r : R} {Φ Ψ : Nat → Prop} {I0 : Ent} {ts : List (AV E)} {a : Act} {Q : Exit → Act → World → Prop}
theorem A1l_map {G' : Gh} {m' : Mem E} {n' : Nat} {f : A1 E → A1 E} (hf : ∀ b u, A1r E G w m n b u → A1r E G' w m' n' (f b) u) {cs : List (A1 E)} {arr : Array Value} (h : A1l E G w m n cs arr) : A1l E G' w m' n' (cs.map f) arr := by
 refine ⟨by simp [h.1], fun j b hj => ?_⟩
 rw [List.getElem?_map] at hj
 obtain ⟨b', hb', rfl⟩ := Option.map_eq_some_iff.1 hj
 exact ⟨hf b' _ (h.2 j b' hb').1, (h.2 j b' hb').2⟩
theorem ren_sound {i c : Nat} {d : Bool} {e : TypeId} {xs : List (E.T e)} (hM : Mr E w0 Φ I0 G m n w) (hT : Tr E G ts m n a w) (hcn : c < n) (hz : I0.M ≤ c) (hc : look m c = none) (hi : look m i = some (.row d e xs)) :
  ∃ G', Mr E w0 Φ I0 G' (setm (delm (mapM (renA i c) m) i) c (.row d e xs)) n w ∧ Tr E G' (ts.map (mapAV (renA i c))) (setm (delm (mapM (renA i c) m) i) c (.row d e xs)) n a w := by
 have hne : c ≠ i := fun e => by subst e; rw [hc] at hi; cases hi
 let m' : Mem E := setm (delm (mapM (renA i c) m) i) c (.row d e xs)
 let G' : Gh := { hd := fun j => if j = c then G.hd i else G.hd j, bk := G.bk, fp := fun j => if j = c then G.fp i else G.fp j, I := G.I, ih := G.ih }
 have hlk : ∀ j, look m' j = if j = c then some (.row d e xs) else if j = i then none else (look m j).map (mapB (renA i c)) := fun j => by
  simp only [m']
  rw [look_set, look_del, look_map]
  by_cases h1 : c = j
  ·simp [h1]
  ·rw [if_neg h1, if_neg (Ne.symm h1)]
   by_cases h2 : i = j
   ·simp [h2]
   ·rw [if_neg h2, if_neg (Ne.symm h2)]
 have hrow : ∀ j d' e' xs', look m' j = some (.row d' e' xs') → (j = c ∧ (⟨d', e', xs'⟩ : (_ : Bool) × (t : TypeId) × List (E.T t)) = ⟨d, e, xs⟩) ∨ (j ≠ c ∧ j ≠ i ∧ look m j = some (.row d' e' xs')) := fun j d' e' xs' h => by
  rw [hlk] at h
  split at h
  ·rename_i hj; cases h; exact .inl ⟨hj, rfl⟩
  ·rename_i hj
   split at h
   ·cases h
   ·rename_i hji
    obtain ⟨b, hb, hb'⟩ := Option.map_eq_some_iff.1 h
    cases b with
    | box cs => cases hb'
    | row d0 e0 xs0 => cases hb'; exact .inr ⟨hj, hji, hb⟩
    | rowV e0 xs0 => cases hb'
 have hvw : ∀ j e' xs', look m' j = some (.rowV e' xs') → j ≠ c ∧ j ≠ i ∧ look m j = some (.rowV e' xs') := fun j e' xs' h => by
  rw [hlk] at h
  split at h
  ·cases h
  ·rename_i hj
   split at h
   ·cases h
   ·rename_i hji
    obtain ⟨b, hb, hb'⟩ := Option.map_eq_some_iff.1 h
    cases b with
    | box cs => cases hb'
    | row d0 e0 xs0 => cases hb'
    | rowV e0 xs0 => cases hb'; exact ⟨hj, hji, hb⟩
 have hbox : ∀ j cs', look m' j = some (.box cs') → j ≠ c ∧ j ≠ i ∧ ∃ cs, look m j = some (.box cs) ∧ cs' = cs.map (renA i c) := fun j cs' h => by
  rw [hlk] at h
  split at h
  ·cases h
  ·rename_i hj
   split at h
   ·cases h
   ·rename_i hji
    obtain ⟨b, hb, hb'⟩ := Option.map_eq_some_iff.1 h
    cases b with
    | box cs => cases hb'; exact ⟨hj, hji, cs, hb, rfl⟩
    | row d0 e0 xs0 => cases hb'
    | rowV e0 xs0 => cases hb'
 have hlive : ∀ j b, look m' j = some b → ∃ j' b', look m j' = some b' ∧ G'.fp j = G.fp j' ∧ (j' = if j = c then i else j) ∧ (j = c ∨ j ≠ i) := fun j b h => by
  by_cases hj : j = c
  ·exact ⟨i, _, hi, by simp [G', hj], by simp [hj], .inl hj⟩
  ·rw [hlk, if_neg hj] at h
   split at h
   ·cases h
   ·rename_i hji
    obtain ⟨b', hb, _⟩ := Option.map_eq_some_iff.1 h
    exact ⟨j, b', hb, by simp [G', hj], by simp [hj], .inr hji⟩
 have hA : ∀ b u, A1r E G w m n b u → A1r E G' w m' n (renA i c b) u := fun b u h => by
  cases b with
  | s v => exact h
  | imm e xs => exact h
  | ip e x off => exact h
  | junk => exact h
  | fnp g xs => exact h
  | fn g ids =>
   simp only [renA]
   split
   ·trivial
   ·exact FnR.keep' h (Nat.le_refl _) fun p cs _ hl => by
     obtain ⟨_, _, cs0, e, _⟩ := hbox p.1 cs hl
     exact ⟨rfl, cs0, e⟩
  | row j =>
   simp only [renA]
   split
   ·rename_i hj; subst hj
    refine ⟨hcn, h.2.1, fun d' e' xs' hl => ?_⟩
    simp only [G', if_true]
    exact h.2.2 _ _ _ hi
   ·rename_i hj
    split
    ·trivial
    ·rename_i hjc
     refine ⟨h.1, h.2.1, fun d' e' xs' hl => ?_⟩
     rcases hrow j d' e' xs' hl with ⟨e, _⟩ | ⟨_, _, e⟩
     ·exact absurd e hjc
     ·simp only [G', if_neg hjc]; exact h.2.2 _ _ _ e
  | win j lo k =>
   simp only [renA]
   split
   ·rename_i hj; subst hj
    refine ⟨hcn, h.2.1, fun d' e' xs' hl => ?_⟩
    rcases hrow c d' e' xs' hl with ⟨_, e⟩ | ⟨e, _⟩
    ·cases e
     simp only [G', if_true]
     exact h.2.2 _ _ _ hi
    ·exact absurd rfl e
   ·rename_i hj
    split
    ·trivial
    ·rename_i hjc
     refine ⟨h.1, h.2.1, fun d' e' xs' hl => ?_⟩
     rcases hrow j d' e' xs' hl with ⟨e, _⟩ | ⟨_, _, e⟩
     ·exact absurd e hjc
     ·simp only [G', if_neg hjc]; exact h.2.2 _ _ _ e
  | bp j off =>
   simp only [renA]
   split
   ·rename_i hj; subst hj
    refine ⟨hcn, h.2.1, fun cs' hl => ?_⟩
    exact absurd rfl (hbox c cs' hl).1
   ·rename_i hj
    split
    ·trivial
    ·rename_i hjc
     refine ⟨h.1, h.2.1, fun cs' hl => ?_⟩
     obtain ⟨_, _, cs, e, _⟩ := hbox j cs' hl
     exact h.2.2 _ e
  | ap j lo k x =>
   simp only [renA]
   split
   ·rename_i hj; subst hj
    refine ⟨hcn, h.2.1, fun cs' hl => ?_⟩
    exact absurd rfl (hbox c cs' hl).1
   ·rename_i hj
    split
    ·trivial
    ·rename_i hjc
     refine ⟨h.1, h.2.1, fun cs' hl => ?_⟩
     obtain ⟨_, _, cs, e, _⟩ := hbox j cs' hl
     exact h.2.2 _ e
  | rp j x off =>
   simp only [renA]
   split
   ·rename_i hj; subst hj
    refine ⟨hcn, h.2.1, fun d' e' xs' hl => ?_⟩
    rcases hrow c d' e' xs' hl with ⟨_, e⟩ | ⟨e, _⟩
    ·cases e
     simp only [G', if_true]
     exact h.2.2 _ _ _ hi
    ·exact absurd rfl e
   ·rename_i hj
    split
    ·trivial
    ·rename_i hjc
     refine ⟨h.1, h.2.1, fun d' e' xs' hl => ?_⟩
     rcases hrow j d' e' xs' hl with ⟨e, _⟩ | ⟨_, _, e⟩
     ·exact absurd e hjc
     ·simp only [G', if_neg hjc]; exact h.2.2 _ _ _ e
  | rv j =>
   simp only [renA]
   split
   ·trivial
   ·split
    ·trivial
    ·refine ⟨h.1, h.2.1, fun e' xs' hl => ?_⟩
     obtain ⟨q1, _, q2⟩ := hvw j e' xs' hl
     simp only [G', if_neg q1]; exact h.2.2 _ _ q2
  | vp j x off =>
   simp only [renA]
   split
   ·trivial
   ·split
    ·trivial
    ·refine ⟨h.1, h.2.1, fun e' xs' hl => ?_⟩
     obtain ⟨q1, _, q2⟩ := hvw j e' xs' hl
     simp only [G', if_neg q1]; exact h.2.2 _ _ q2
  | hd j x off =>
   simp only [renA]
   split
   ·trivial
   ·split
    ·trivial
    ·refine ⟨h.1, h.2.1, fun e' xs' hl => ?_⟩
     obtain ⟨q1, _, q2⟩ := hvw j e' xs' hl
     exact h.2.2 _ _ q2
  | hp j x off l o =>
   simp only [renA]
   split
   ·trivial
   ·split
    ·trivial
    ·refine ⟨h.1, h.2.1, fun e' xs' hl => ?_⟩
     obtain ⟨q1, _, q2⟩ := hvw j e' xs' hl
     exact h.2.2 _ _ q2
 refine ⟨G', ⟨hM.fr, fun j b hj => ?_, fun j b hj => ?_, fun j b hj k hk => ?_, fun j j' b b' hj hj' hjj k hk => ?_, hM.il, hM.ii, hM.ip, hM.nn, fun j cs hj hc => by obtain ⟨_, _, cs', h1, _⟩ := hbox j cs hc; exact hM.an j cs' hj h1, fun j d' e' xs' hj hl => by
  rcases hrow j d' e' xs' hl with ⟨h1, _⟩ | ⟨h1, h2, h3⟩
  ·omega
  ·simp only [G', if_neg h1]; exact hM.ar j d' e' xs' hj h3⟩, mapT_rel hA hT⟩
 ·obtain ⟨j', b', h1, _, h3, h4⟩ := hlive j b hj
  by_cases hjc : j = c
  ·rw [hjc]; exact hcn
  ·rw [if_neg hjc] at h3; rw [← h3]; exact hM.lt j' b' h1
 ·cases b with
  | box cs' =>
   obtain ⟨h1, h2, cs, h3, rfl⟩ := hbox j cs' hj
   obtain ⟨⟨arr, ty, g1, g2⟩, g3⟩ := hM.bl j _ h3
   exact ⟨⟨arr, ty, g1, A1l_map hA g2⟩, by simp only [G', if_neg h1]; exact g3⟩
  | row d' e' xs' =>
   rcases hrow j d' e' xs' hj with ⟨h1, h2⟩ | ⟨h1, h2, h3⟩
   ·cases h2
    subst h1
    have := hM.bl i _ hi
    simpa [Blkr, G'] using this
   ·have := hM.bl j _ h3
    simpa [Blkr, G', h1] using this
  | rowV e' xs' =>
   obtain ⟨h1, h2, h3⟩ := hvw j e' xs' hj
   have := hM.bl j _ h3
   simpa [Blkr, G', h1] using this
 ·obtain ⟨j', b', h1, h2, _⟩ := hlive j b hj
  rw [h2] at hk
  exact hM.lo j' b' h1 k hk
 ·obtain ⟨l, b1, h1, h2, h3, h4⟩ := hlive j b hj
  obtain ⟨l', b2, h1', h2', h3', h4'⟩ := hlive j' b' hj'
  rw [h2] at hk
  rw [h2']
  refine hM.dj l l' b1 b2 h1 h1' (fun el => ?_) k hk
  by_cases q : j = c
  ·rw [if_pos q] at h3
   by_cases q' : j' = c
   ·exact hjj (q.trans q'.symm)
   ·rw [if_neg q'] at h3'
    exact (h4'.resolve_left q') (by rw [← h3', ← el, h3])
  ·rw [if_neg q] at h3
   by_cases q' : j' = c
   ·rw [if_pos q'] at h3'; exact (h4.resolve_left q) (by rw [← h3, el, h3'])
   ·rw [if_neg q'] at h3'; exact hjj (by rw [← h3, el, h3'])
theorem renames_sound {z : Nat} (hz : I0.M ≤ z) : ∀ (k : Nat) (us : List (AV E)) (um : Mem E) {ts : List (AV E)} {m : Mem E} {G : Gh} {ts' : List (AV E)} {m' : Mem E}, Mr E w0 Φ I0 G m n w → Tr E G ts m n a w → renames z n k us um ts m = some (ts', m') → ∃ G', Mr E w0 Φ I0 G' m' n w ∧ Tr E G' ts' m' n a w
 | 0, us, um, ts, m, G, ts', m', hM, hT, h => by simp [renames] at h
 | k + 1, us, um, ts, m, G, ts', m', hM, hT, h => by
  simp only [renames] at h
  split at h
  ·cases h; exact ⟨G, hM, hT⟩
  ·split at h
   ·rename_i hcn hzc d e xs _ _ hc hi
    obtain ⟨G', h1, h2⟩ := ren_sound hM hT hcn (Nat.le_trans hz hzc) hc hi
    exact renames_sound hz k us um h1 h2 h
   ·cases h
theorem lowF_mem {n0 : Nat} : ∀ {ids : List (Nat × TypeId)} {p : Nat × TypeId}, lowF n0 ids = true → p ∈ ids → p.1 < n0
 | [], p, _, h => by cases h
 | q :: ids, p, h, hp => by
  simp only [lowF, Bool.and_eq_true] at h
  rcases List.mem_cons.1 hp with rfl | hp
  ·have := h.1; simp [Nat.blt] at this; omega
  ·exact lowF_mem h.2 hp
theorem low_sound {n0 : Nat} (hN : I0.N ≤ n0) (hM : Mr E w0 Φ I0 G m n w) (hT : Tr E G ts m n a w) : Mr E w0 Φ I0 G (mapM (lowA n0) (lowM n0 m)) n0 w ∧ Tr E G (ts.map (mapAV (lowA n0))) (mapM (lowA n0) (lowM n0 m)) n0 a w := by
 have hlk : ∀ j b, look (mapM (lowA n0) (lowM n0 m)) j = some b → j < n0 ∧ ∃ b', look m j = some b' ∧ b = mapB (lowA n0) b' := fun j b h => by
  rw [look_map, look_low] at h
  obtain ⟨b', hb, rfl⟩ := Option.map_eq_some_iff.1 h
  split at hb
  ·exact ⟨‹_›, b', hb, rfl⟩
  ·cases hb
 have hrow : ∀ j d e xs, look (mapM (lowA n0) (lowM n0 m)) j = some (.row d e xs) → look m j = some (.row d e xs) := fun j d e xs h => by
  obtain ⟨_, b', h1, h2⟩ := hlk j _ h
  cases b' with
  | box cs => cases h2
  | row d' e' xs' => cases h2; exact h1
  | rowV e' xs' => cases h2
 have hvw : ∀ j e xs, look (mapM (lowA n0) (lowM n0 m)) j = some (.rowV e xs) → look m j = some (.rowV e xs) := fun j e xs h => by
  obtain ⟨_, b', h1, h2⟩ := hlk j _ h
  cases b' with
  | box cs => cases h2
  | row d' e' xs' => cases h2
  | rowV e' xs' => cases h2; exact h1
 have hbox : ∀ j cs, look (mapM (lowA n0) (lowM n0 m)) j = some (.box cs) → ∃ cs', look m j = some (.box cs') ∧ cs = cs'.map (lowA n0) := fun j cs h => by
  obtain ⟨_, b', h1, h2⟩ := hlk j _ h
  cases b' with
  | box cs' => cases h2; exact ⟨cs', h1, rfl⟩
  | row d' e' xs' => cases h2
  | rowV e' xs' => cases h2
 have hA : ∀ b u, A1r E G w m n b u → A1r E G w (mapM (lowA n0) (lowM n0 m)) n0 (lowA n0 b) u := fun b u h => by
  cases b with
  | s v => exact h
  | imm e xs => exact h
  | ip e x off => exact h
  | junk => exact h
  | fnp g xs => exact h
  | fn g ids =>
   simp only [lowA]
   split
   ·rename_i hlow
    have h' : FnR E G m n g ids u := h
    refine ⟨h'.1, fun p hp => lowF_mem hlow hp, ?_⟩
    obtain ⟨_, _, lb, e1, e2, e3⟩ := h'
    exact ⟨lb, e1, e2, fun j p cs hj hl => by obtain ⟨cs', h1, _⟩ := hbox p.1 cs hl; exact e3 j p cs' hj h1⟩
   ·trivial
  | row j =>
   simp only [lowA]
   split
   ·exact ⟨‹_›, h.2.1, fun d e xs hl => h.2.2 _ _ _ (hrow j d e xs hl)⟩
   ·trivial
  | win j lo k =>
   simp only [lowA]
   split
   ·exact ⟨‹_›, h.2.1, fun d e xs hl => h.2.2 _ _ _ (hrow j d e xs hl)⟩
   ·trivial
  | bp j off =>
   simp only [lowA]
   split
   ·exact ⟨‹_›, h.2.1, fun cs hl => by obtain ⟨cs', h1, _⟩ := hbox j cs hl; exact h.2.2 _ h1⟩
   ·trivial
  | ap j lo k x =>
   simp only [lowA]
   split
   ·exact ⟨‹_›, h.2.1, fun cs hl => by obtain ⟨cs', h1, _⟩ := hbox j cs hl; exact h.2.2 _ h1⟩
   ·trivial
  | rp j x off =>
   simp only [lowA]
   split
   ·exact ⟨‹_›, h.2.1, fun d e xs hl => h.2.2 _ _ _ (hrow j d e xs hl)⟩
   ·trivial
  | rv j =>
   simp only [lowA]
   split
   ·exact ⟨‹_›, h.2.1, fun e xs hl => h.2.2 _ _ (hvw j e xs hl)⟩
   ·trivial
  | vp j x off =>
   simp only [lowA]
   split
   ·exact ⟨‹_›, h.2.1, fun e xs hl => h.2.2 _ _ (hvw j e xs hl)⟩
   ·trivial
  | hd j x off =>
   simp only [lowA]
   split
   ·exact ⟨‹_›, h.2.1, fun e xs hl => h.2.2 _ _ (hvw j e xs hl)⟩
   ·trivial
  | hp j x off l o =>
   simp only [lowA]
   split
   ·exact ⟨‹_›, h.2.1, fun e xs hl => h.2.2 _ _ (hvw j e xs hl)⟩
   ·trivial
 refine ⟨⟨hM.fr, fun j b hj => (hlk j b hj).1, fun j b hj => ?_, fun j b hj => ?_, fun i j b b' hi hj => ?_, hM.il, hM.ii, hM.ip, hN, fun j cs hj hc => by obtain ⟨cs', h1, _⟩ := hbox j cs hc; exact hM.an j cs' hj h1, fun j d e xs hj hl => hM.ar j d e xs hj (hrow j d e xs hl)⟩, mapT_rel hA hT⟩
 ·cases b with
  | box cs =>
   obtain ⟨cs', h1, rfl⟩ := hbox j cs hj
   obtain ⟨⟨arr, ty, g1, g2⟩, g3⟩ := hM.bl j _ h1
   exact ⟨⟨arr, ty, g1, A1l_map hA g2⟩, g3⟩
  | row d e xs => exact hM.bl j _ (hrow j d e xs hj)
  | rowV e xs => exact hM.bl j _ (hvw j e xs hj)
 ·obtain ⟨_, b', h1, _⟩ := hlk j b hj; exact hM.lo j b' h1
 ·obtain ⟨_, c, h1, _⟩ := hlk i b hi
  obtain ⟨_, c', h2, _⟩ := hlk j b' hj
  exact hM.dj i j c c' h1 h2
end
end Go.B
