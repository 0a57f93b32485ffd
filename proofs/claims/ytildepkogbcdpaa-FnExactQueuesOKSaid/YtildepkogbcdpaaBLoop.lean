/- Loops, branches: what the reckoner says of the program's code. -/
import Derived.Test.YtildepkogbcdpaaBDrawE
namespace Go.B
open Go Go.RowKit
set_option linter.unusedVariables false
set_option linter.unusedSimpArgs false
variable {E : Env} {P : Program}
section
variable {R : Type} {G : Gh} {w w0 w1 w' : World} {m m' m1 m2 : Mem E} {n : Nat} {r : R} {Φ Ψ : Nat → Prop} {I0 : Ent} {ts : List (AV E)} {a : Act} {Q : Exit → Act → World → Prop}
theorem A1l_map {G' : Gh} {m' : Mem E} {n' : Nat} {f : A1 E → A1 E} (hf : ∀ b u, A1r E G w m n b u → A1r E G' w m' n' (f b) u) {cs : List (A1 E)} {arr : Array Value} (h : A1l E G w m n cs arr) : A1l E G' w m' n' (cs.map f) arr := by
  refine ⟨by simp [h.1], fun j b hj => ?_⟩
  rw [List.getElem?_map] at hj
  obtain ⟨b', hb', rfl⟩ := Option.map_eq_some_iff.1 hj
  exact ⟨hf b' _ (h.2 j b' hb').1, (h.2 j b' hb').2⟩
/-- Another number for a row. -/
theorem ren_sound {i c : Nat} {d : Bool} {e : TypeId} {xs : List (E.T e)} (hM : Mr E w0 Φ I0 G m n w) (hT : Tr E G ts m n a w) (hcn : c < n) (hc : look m c = none) (hi : look m i = some (.row d e xs)) :
    ∃ G', Mr E w0 Φ I0 G' (setm (delm (mapM (renA i c) m) i) c (.row d e xs)) n w ∧ Tr E G' (ts.map (mapAV (renA i c))) (setm (delm (mapM (renA i c) m) i) c (.row d e xs)) n a w := by
  have hne : c ≠ i := fun e => by subst e; rw [hc] at hi; cases hi
  let m' : Mem E := setm (delm (mapM (renA i c) m) i) c (.row d e xs)
  let G' : Gh := { hd := fun j => if j = c then G.hd i else G.hd j, bk := G.bk, fp := fun j => if j = c then G.fp i else G.fp j, I := G.I }
  have hlk : ∀ j, look m' j = if j = c then some (.row d e xs) else if j = i then none else (look m j).map (mapB (renA i c)) := fun j => by
    simp only [m']
    rw [look_set, look_del, look_map]
    by_cases h1 : c = j
    · simp [h1]
    · rw [if_neg h1, if_neg (Ne.symm h1)]
      by_cases h2 : i = j
      · simp [h2]
      · rw [if_neg h2, if_neg (Ne.symm h2)]
  have hrow : ∀ j d' e' xs', look m' j = some (.row d' e' xs') → (j = c ∧ (⟨d', e', xs'⟩ : (_ : Bool) × (t : TypeId) × List (E.T t)) = ⟨d, e, xs⟩) ∨ (j ≠ c ∧ j ≠ i ∧ look m j = some (.row d' e' xs')) := fun j d' e' xs' h => by
    rw [hlk] at h
    split at h
    · rename_i hj; cases h; exact .inl ⟨hj, rfl⟩
    · rename_i hj
      split at h
      · cases h
      · rename_i hji
        obtain ⟨b, hb, hb'⟩ := Option.map_eq_some_iff.1 h
        cases b with
        | box cs => cases hb'
        | row d0 e0 xs0 => cases hb'; exact .inr ⟨hj, hji, hb⟩
  have hbox : ∀ j cs', look m' j = some (.box cs') → j ≠ c ∧ j ≠ i ∧ ∃ cs, look m j = some (.box cs) ∧ cs' = cs.map (renA i c) := fun j cs' h => by
    rw [hlk] at h
    split at h
    · cases h
    · rename_i hj
      split at h
      · cases h
      · rename_i hji
        obtain ⟨b, hb, hb'⟩ := Option.map_eq_some_iff.1 h
        cases b with
        | box cs => cases hb'; exact ⟨hj, hji, cs, hb, rfl⟩
        | row d0 e0 xs0 => cases hb'
  have hlive : ∀ j b, look m' j = some b → ∃ j' b', look m j' = some b' ∧ G'.fp j = G.fp j' ∧ (j' = if j = c then i else j) ∧ (j = c ∨ j ≠ i) := fun j b h => by
    by_cases hj : j = c
    · exact ⟨i, _, hi, by simp [G', hj], by simp [hj], .inl hj⟩
    · rw [hlk, if_neg hj] at h
      split at h
      · cases h
      · rename_i hji
        obtain ⟨b', hb, _⟩ := Option.map_eq_some_iff.1 h
        exact ⟨j, b', hb, by simp [G', hj], by simp [hj], .inr hji⟩
  have hA : ∀ b u, A1r E G w m n b u → A1r E G' w m' n (renA i c b) u := fun b u h => by
    cases b with
    | s v => exact h
    | imm e xs => exact h
    | ip e x off => exact h
    | junk => exact h
    | row j =>
      simp only [renA]
      split
      · rename_i hj; subst hj
        refine ⟨hcn, h.2.1, fun d' e' xs' hl => ?_⟩
        simp only [G', if_true]
        exact h.2.2 _ _ _ hi
      · rename_i hj
        split
        · trivial
        · rename_i hjc
          refine ⟨h.1, h.2.1, fun d' e' xs' hl => ?_⟩
          rcases hrow j d' e' xs' hl with ⟨e, _⟩ | ⟨_, _, e⟩
          · exact absurd e hjc
          · simp only [G', if_neg hjc]; exact h.2.2 _ _ _ e
    | win j lo k =>
      simp only [renA]
      split
      · rename_i hj; subst hj
        refine ⟨hcn, h.2.1, fun d' e' xs' hl => ?_⟩
        rcases hrow c d' e' xs' hl with ⟨_, e⟩ | ⟨e, _⟩
        · cases e
          simp only [G', if_true]
          exact h.2.2 _ _ _ hi
        · exact absurd rfl e
      · rename_i hj
        split
        · trivial
        · rename_i hjc
          refine ⟨h.1, h.2.1, fun d' e' xs' hl => ?_⟩
          rcases hrow j d' e' xs' hl with ⟨e, _⟩ | ⟨_, _, e⟩
          · exact absurd e hjc
          · simp only [G', if_neg hjc]; exact h.2.2 _ _ _ e
    | bp j off =>
      simp only [renA]
      split
      · rename_i hj; subst hj
        refine ⟨hcn, h.2.1, fun cs' hl => ?_⟩
        exact absurd rfl (hbox c cs' hl).1
      · rename_i hj
        split
        · trivial
        · rename_i hjc
          refine ⟨h.1, h.2.1, fun cs' hl => ?_⟩
          obtain ⟨_, _, cs, e, _⟩ := hbox j cs' hl
          exact h.2.2 _ e
    | ap j lo k x =>
      simp only [renA]
      split
      · rename_i hj; subst hj
        refine ⟨hcn, h.2.1, fun cs' hl => ?_⟩
        exact absurd rfl (hbox c cs' hl).1
      · rename_i hj
        split
        · trivial
        · rename_i hjc
          refine ⟨h.1, h.2.1, fun cs' hl => ?_⟩
          obtain ⟨_, _, cs, e, _⟩ := hbox j cs' hl
          exact h.2.2 _ e
    | rp j x off =>
      simp only [renA]
      split
      · rename_i hj; subst hj
        refine ⟨hcn, h.2.1, fun d' e' xs' hl => ?_⟩
        rcases hrow c d' e' xs' hl with ⟨_, e⟩ | ⟨e, _⟩
        · cases e
          simp only [G', if_true]
          exact h.2.2 _ _ _ hi
        · exact absurd rfl e
      · rename_i hj
        split
        · trivial
        · rename_i hjc
          refine ⟨h.1, h.2.1, fun d' e' xs' hl => ?_⟩
          rcases hrow j d' e' xs' hl with ⟨e, _⟩ | ⟨_, _, e⟩
          · exact absurd e hjc
          · simp only [G', if_neg hjc]; exact h.2.2 _ _ _ e
  refine ⟨G', ⟨hM.fr, fun j b hj => ?_, fun j b hj => ?_, fun j b hj k hk => ?_, fun j j' b b' hj hj' hjj k hk => ?_, hM.il, hM.ii, hM.ip, hM.nn, fun j cs hj hc => by obtain ⟨_, _, cs', h1, _⟩ := hbox j cs hc; exact hM.an j cs' hj h1⟩, mapT_rel hA hT⟩
  · obtain ⟨j', b', h1, _, h3, h4⟩ := hlive j b hj
    by_cases hjc : j = c
    · rw [hjc]; exact hcn
    · rw [if_neg hjc] at h3; rw [← h3]; exact hM.lt j' b' h1
  · cases b with
    | box cs' =>
      obtain ⟨h1, h2, cs, h3, rfl⟩ := hbox j cs' hj
      obtain ⟨⟨arr, ty, g1, g2⟩, g3⟩ := hM.bl j _ h3
      exact ⟨⟨arr, ty, g1, A1l_map hA g2⟩, by simp only [G', if_neg h1]; exact g3⟩
    | row d' e' xs' =>
      rcases hrow j d' e' xs' hj with ⟨h1, h2⟩ | ⟨h1, h2, h3⟩
      · cases h2
        subst h1
        have := hM.bl i _ hi
        simpa [Blkr, G'] using this
      · have := hM.bl j _ h3
        simpa [Blkr, G', h1] using this
  · obtain ⟨j', b', h1, h2, _⟩ := hlive j b hj
    rw [h2] at hk
    exact hM.lo j' b' h1 k hk
  · obtain ⟨l, b1, h1, h2, h3, h4⟩ := hlive j b hj
    obtain ⟨l', b2, h1', h2', h3', h4'⟩ := hlive j' b' hj'
    rw [h2] at hk
    rw [h2']
    refine hM.dj l l' b1 b2 h1 h1' (fun el => ?_) k hk
    by_cases q : j = c
    · rw [if_pos q] at h3
      by_cases q' : j' = c
      · exact hjj (q.trans q'.symm)
      · rw [if_neg q'] at h3'
        exact (h4'.resolve_left q') (by rw [← h3', ← el, h3])
    · rw [if_neg q] at h3
      by_cases q' : j' = c
      · rw [if_pos q'] at h3'; exact (h4.resolve_left q) (by rw [← h3, el, h3'])
      · rw [if_neg q'] at h3'; exact hjj (by rw [← h3, el, h3'])
theorem renames_sound : ∀ (k : Nat) (us : List (AV E)) {ts : List (AV E)} {m : Mem E} {G : Gh} {ts' : List (AV E)} {m' : Mem E}, Mr E w0 Φ I0 G m n w → Tr E G ts m n a w → renames n k us ts m = some (ts', m') → ∃ G', Mr E w0 Φ I0 G' m' n w ∧ Tr E G' ts' m' n a w
  | 0, us, ts, m, G, ts', m', hM, hT, h => by simp [renames] at h
  | k + 1, us, ts, m, G, ts', m', hM, hT, h => by
    simp only [renames] at h
    split at h
    · cases h; exact ⟨G, hM, hT⟩
    · split at h
      · rename_i hcn d e xs _ hc hi
        obtain ⟨G', h1, h2⟩ := ren_sound hM hT hcn hc hi
        exact renames_sound k us h1 h2 h
      · cases h
/-- What is numbered from n0 on is forgotten. -/
theorem low_sound {n0 : Nat} (hN : I0.N ≤ n0) (hM : Mr E w0 Φ I0 G m n w) (hT : Tr E G ts m n a w) : Mr E w0 Φ I0 G (mapM (lowA n0) (lowM n0 m)) n0 w ∧ Tr E G (ts.map (mapAV (lowA n0))) (mapM (lowA n0) (lowM n0 m)) n0 a w := by
  have hlk : ∀ j b, look (mapM (lowA n0) (lowM n0 m)) j = some b → j < n0 ∧ ∃ b', look m j = some b' ∧ b = mapB (lowA n0) b' := fun j b h => by
    rw [look_map, look_low] at h
    obtain ⟨b', hb, rfl⟩ := Option.map_eq_some_iff.1 h
    split at hb
    · exact ⟨‹_›, b', hb, rfl⟩
    · cases hb
  have hrow : ∀ j d e xs, look (mapM (lowA n0) (lowM n0 m)) j = some (.row d e xs) → look m j = some (.row d e xs) := fun j d e xs h => by
    obtain ⟨_, b', h1, h2⟩ := hlk j _ h
    cases b' with
    | box cs => cases h2
    | row d' e' xs' => cases h2; exact h1
  have hbox : ∀ j cs, look (mapM (lowA n0) (lowM n0 m)) j = some (.box cs) → ∃ cs', look m j = some (.box cs') ∧ cs = cs'.map (lowA n0) := fun j cs h => by
    obtain ⟨_, b', h1, h2⟩ := hlk j _ h
    cases b' with
    | box cs' => cases h2; exact ⟨cs', h1, rfl⟩
    | row d' e' xs' => cases h2
  have hA : ∀ b u, A1r E G w m n b u → A1r E G w (mapM (lowA n0) (lowM n0 m)) n0 (lowA n0 b) u := fun b u h => by
    cases b with
    | s v => exact h
    | imm e xs => exact h
    | ip e x off => exact h
    | junk => exact h
    | row j =>
      simp only [lowA]
      split
      · exact ⟨‹_›, h.2.1, fun d e xs hl => h.2.2 _ _ _ (hrow j d e xs hl)⟩
      · trivial
    | win j lo k =>
      simp only [lowA]
      split
      · exact ⟨‹_›, h.2.1, fun d e xs hl => h.2.2 _ _ _ (hrow j d e xs hl)⟩
      · trivial
    | bp j off =>
      simp only [lowA]
      split
      · exact ⟨‹_›, h.2.1, fun cs hl => by obtain ⟨cs', h1, _⟩ := hbox j cs hl; exact h.2.2 _ h1⟩
      · trivial
    | ap j lo k x =>
      simp only [lowA]
      split
      · exact ⟨‹_›, h.2.1, fun cs hl => by obtain ⟨cs', h1, _⟩ := hbox j cs hl; exact h.2.2 _ h1⟩
      · trivial
    | rp j x off =>
      simp only [lowA]
      split
      · exact ⟨‹_›, h.2.1, fun d e xs hl => h.2.2 _ _ _ (hrow j d e xs hl)⟩
      · trivial
  refine ⟨⟨hM.fr, fun j b hj => (hlk j b hj).1, fun j b hj => ?_, fun j b hj => ?_, fun i j b b' hi hj => ?_, hM.il, hM.ii, hM.ip, hN, fun j cs hj hc => by obtain ⟨cs', h1, _⟩ := hbox j cs hc; exact hM.an j cs' hj h1⟩, mapT_rel hA hT⟩
  · cases b with
    | box cs =>
      obtain ⟨cs', h1, rfl⟩ := hbox j cs hj
      obtain ⟨⟨arr, ty, g1, g2⟩, g3⟩ := hM.bl j _ h1
      exact ⟨⟨arr, ty, g1, A1l_map hA g2⟩, g3⟩
    | row d e xs => exact hM.bl j _ (hrow j d e xs hj)
  · obtain ⟨_, b', h1, _⟩ := hlk j b hj; exact hM.lo j b' h1
  · obtain ⟨_, c, h1, _⟩ := hlk i b hi
    obtain ⟨_, c', h2, _⟩ := hlk j b' hj
    exact hM.dj i j c c' h1 h2
theorem look_ins (i : Nat) (b : Blk E) : ∀ (m : Mem E) (j : Nat), look (insM i b m) j = if i = j then some b else look m j
  | [], j => by
    simp only [insM, look]
    cases decEq i j with
    | isTrue e => simp [e]
    | isFalse e => simp [e]
  | (l, c) :: m, j => by
    simp only [insM]
    cases decEq i l with
    | isTrue e =>
      subst e
      simp only [look]
      cases decEq i j with
      | isTrue e => simp [e]
      | isFalse e => simp [e]
    | isFalse e =>
      cases Nat.decLt i l with
      | isTrue h =>
        simp only [look]
        cases decEq i j with
        | isTrue e => simp [e]
        | isFalse e => simp [e]
      | isFalse h =>
        simp only [look]
        cases decEq l j with
        | isTrue e' => subst e'; simp [e]
        | isFalse e' => exact look_ins i b m j
theorem look_gc (is : List Nat) : ∀ (m : Mem E) (j : Nat), look (gcM is m) j = if memN j is = true then look m j else none
  | [], j => by simp [gcM, look]
  | (i, b) :: m, j => by
    simp only [gcM]
    split
    · rename_i h
      rw [look_ins, look_gc is m j]
      simp only [look]
      cases decEq i j with
      | isTrue e => subst e; simp [h]
      | isFalse e => simp [e]
    · rename_i h
      rw [look_gc is m j]
      simp only [look]
      cases decEq i j with
      | isTrue e => subst e; simp [h]
      | isFalse e => rfl
/-- What is no longer led to is forgotten. -/
theorem gc_sound (is : List Nat) (hM : Mr E w0 Φ I0 G m n w) (hT : Tr E G ts m n a w) : Mr E w0 Φ I0 G (gcM is m) n w ∧ Tr E G ts (gcM is m) n a w := by
  have hlk : ∀ j b, look (gcM is m) j = some b → look m j = some b := fun j b h => by
    rw [look_gc] at h
    split at h
    · exact h
    · cases h
  have hA : ∀ b u, A1r E G w m n b u → A1r E G w (gcM is m) n b u := fun b u h => by
    cases b with
    | s v => exact h
    | imm e xs => exact h
    | ip e x off => exact h
    | junk => exact h
    | row j => exact ⟨h.1, h.2.1, fun d e xs hl => h.2.2 _ _ _ (hlk j _ hl)⟩
    | win j lo k => exact ⟨h.1, h.2.1, fun d e xs hl => h.2.2 _ _ _ (hlk j _ hl)⟩
    | bp j off => exact ⟨h.1, h.2.1, fun cs hl => h.2.2 _ (hlk j _ hl)⟩
    | ap j lo k x => exact ⟨h.1, h.2.1, fun cs hl => h.2.2 _ (hlk j _ hl)⟩
    | rp j x off => exact ⟨h.1, h.2.1, fun d e xs hl => h.2.2 _ _ _ (hlk j _ hl)⟩
  refine ⟨⟨hM.fr, fun j b hj => hM.lt j b (hlk j b hj), fun j b hj => ?_, fun j b hj => hM.lo j b (hlk j b hj), fun i j b b' hi hj => hM.dj i j b b' (hlk i b hi) (hlk j b' hj), hM.il, hM.ii, hM.ip, hM.nn, fun j cs hj hc => hM.an j cs hj (hlk j _ hc)⟩, ?_⟩
  · have hb := hM.bl j b (hlk j b hj)
    cases b with
    | box cs =>
      obtain ⟨⟨arr, ty, g1, g2⟩, g3⟩ := hb
      refine ⟨⟨arr, ty, g1, ?_⟩, g3⟩
      have := A1l_map (f := fun b => b) hA g2
      rwa [List.map_id'] at this
    | row d e xs => exact hb
  · have := mapT_rel (f := fun b => b) hA hT
    have e : ∀ (x : AV E), mapAV (fun b => b) x = x := fun x => by
      have e2 : ∀ (x : A2 E), mapA2 (fun b => b) x = x := fun x => by cases x <;> simp [mapA2]
      cases x with
      | v x => simp [mapAV, e2]
      | tup vs => simp only [mapAV]; rw [show (mapA2 fun b : A1 E => b) = _root_.id from funext e2]; simp
    rwa [show (mapAV fun b : A1 E => b) = _root_.id from funext e, List.map_id] at this
theorem gcK_eq {R : Type} (ts : List (AV E)) (m : Mem E) (k : Mem E → R) : ∃ is, gcK ts m k = k (gcM is m) := by
  have hL : ∀ {R : Type} (as : List (A1 E)) (is : List Nat) (k : List Nat → R), ∃ js, idsLK as is k = k js := fun {R} as => by
    induction as with
    | nil => exact fun is k => ⟨is, rfl⟩
    | cons x as ih => intro is k; cases x <;> exact ih _ k
  have hT : ∀ {R : Type} (ts : List (AV E)) (is : List Nat) (k : List Nat → R), ∃ js, idsK ts is k = k js := fun {R} ts => by
    induction ts with
    | nil => exact fun is k => ⟨is, rfl⟩
    | cons x ts ih =>
      intro is k
      cases x with
      | v x =>
        cases x with
        | c x =>
          obtain ⟨js, h1⟩ := hL [x] is fun is => idsK ts is k
          obtain ⟨ks, h2⟩ := ih js k
          exact ⟨ks, h1.trans h2⟩
        | g cs =>
          obtain ⟨js, h1⟩ := hL cs is fun is => idsK ts is k
          obtain ⟨ks, h2⟩ := ih js k
          exact ⟨ks, h1.trans h2⟩
      | tup vs => exact ih is k
  have hMm : ∀ {R : Type} (m : Mem E) (is : List Nat) (k : List Nat → R), ∃ js, idsMK m is k = k js := fun {R} m => by
    induction m with
    | nil => exact fun is k => ⟨is, rfl⟩
    | cons x m ih =>
      intro is k
      obtain ⟨i, b⟩ := x
      cases b with
      | box cs =>
        obtain ⟨js, h1⟩ := hL cs is fun is => idsMK m is k
        obtain ⟨ks, h2⟩ := ih js k
        exact ⟨ks, h1.trans h2⟩
      | row d e xs => exact ih is k
  unfold gcK
  obtain ⟨js, h1⟩ := hT ts [] fun is => idsMK m is fun is => forceM (gcM is m) k
  obtain ⟨ks, h2⟩ := hMm m js fun is => forceM (gcM is m) k
  exact ⟨ks, by rw [h1, h2, forceM_eq]⟩
theorem canon_sound {keep : List Tmp} {us : List (AV E)} {n0 : Nat} {S : St E} {k : St E → Option R} (hN : I0.N ≤ n0) (hM : Mr E w0 Φ I0 G S.m S.n w) (hT : Tr E G S.ts S.m S.n a w) (h : canon keep us n0 S k = some r) :
    ∃ S' G', k S' = some r ∧ Mr E w0 Φ I0 G' S'.m S'.n w ∧ Tr E G' S'.ts S'.m S'.n a w := by
  unfold canon at h
  split at h
  · rename_i ts m hr
    obtain ⟨G', h1, h2⟩ := renames_sound 9 us hM (keepT_rel keep hT) hr
    rw [forceT_eq] at h
    obtain ⟨is, e⟩ := gcK_eq (ts.map (mapAV (lowA n0))) (mapM (lowA n0) (lowM n0 m)) fun m => k ⟨ts.map (mapAV (lowA n0)), m, n0⟩
    rw [e] at h
    obtain ⟨h3, h4⟩ := low_sound (n0 := n0) hN h1 h2
    obtain ⟨h5, h6⟩ := gc_sound is h3 h4
    exact ⟨_, G', h, h5, h6⟩
  · cases h
theorem canonX_sound {keep : List Tmp} {us : List (AV E)} {n1 : Nat} {S : St E} {k : St E → Option R} (hM : Mr E w0 Φ I0 G S.m S.n w) (hT : Tr E G S.ts S.m S.n a w) (h : canonX keep us n1 S k = some r) :
    ∃ S' G', k S' = some r ∧ Mr E w0 Φ I0 G' S'.m S'.n w ∧ Tr E G' S'.ts S'.m S'.n a w := by
  unfold canonX at h
  split at h
  · rename_i ts m hr
    obtain ⟨G', h1, h2⟩ := renames_sound 9 us hM (keepT_rel keep hT) hr
    rw [forceT_eq] at h
    obtain ⟨is, e⟩ := gcK_eq ts m fun m => match Nat.decLe S.n n1 with
      | isTrue _ => k ⟨ts, m, n1⟩
      | isFalse _ => none
    replace h := e.symm.trans h
    split at h
    · rename_i hn _
      obtain ⟨h5, h6⟩ := gc_sound is h1 h2
      exact ⟨_, G', h, h5.to hn, h6.to hn⟩
    · cases h
  · cases h
theorem headS_sound {keep : List Tmp} {S : St E} {k : St E → Option R} (hM : Mr E w0 Φ I0 G S.m S.n w) (hT : Tr E G S.ts S.m S.n a w) (h : headS keep S k = some r) :
    ∃ S', k S' = some r ∧ Mr E w0 Φ I0 G S'.m S'.n w ∧ Tr E G S'.ts S'.m S'.n a w := by
  unfold headS at h
  rw [forceT_eq] at h
  obtain ⟨is, e⟩ := gcK_eq (keepT keep 0 S.ts) S.m fun m => k ⟨keepT keep 0 S.ts, m, S.n⟩
  rw [e] at h
  obtain ⟨h5, h6⟩ := gc_sound is hM (keepT_rel keep hT)
  exact ⟨_, h, h5, h6⟩

/-- A loop by rounds. -/
theorem wp_loop_rounds {c : Code} (J : Nat → Act → World → Prop) (round : ∀ k a w, J k a w → c.wp P (Exit.then (fun a' w' => ∃ k', k' < k ∧ J k' a' w') Q) a w) {k : Nat} {a : Act} {w : World} (h₀ : J k a w) : (Code.loop c).wp P Q a w := by
  intro b kk cs
  have key : ∀ n a w, J n a w → ∃ e a' w', Q e a' w' ∧ Arrives P (lone (b.at a (.code c :: .inLoop c :: kk)) cs w) b kk cs e a' w' := by
    intro n
    induction n using Nat.strongRecOn with
    | _ n ih =>
      intro a w hI
      obtain ⟨e, a₁, w₁, hq, harr⟩ := round n a w hI b (.inLoop c :: kk) cs
      cases e with
      | normal =>
        obtain ⟨n', hlt, hI₁⟩ := hq
        obtain ⟨e₂, a₂, w₂, hq₂, harr₂⟩ := ih n' hlt a₁ w₁ hI₁
        exact ⟨e₂, a₂, w₂, hq₂, .of_steps (Steps.trans harr (.one step_inLoop)) harr₂⟩
      | exit id => exact ⟨_, a₁, w₁, hq, .pass (x := .inLoop c) rfl (fun _ _ => .inl (by simp)) harr⟩
      | goto l => exact ⟨_, a₁, w₁, hq, .pass (x := .inLoop c) rfl (fun _ _ => .inl (by simp)) harr⟩
      | ret => exact ⟨_, a₁, w₁, hq, .pass (x := .inLoop c) rfl (fun _ _ => .inl (by simp)) harr⟩
      | panic ch => exact ⟨_, a₁, w₁, hq, .pass (x := .inLoop c) rfl (fun _ _ => .inl (by simp)) harr⟩
      | outgrown => exact ⟨_, a₁, w₁, hq, .pass (x := .inLoop c) rfl (fun _ _ => .inl (by simp)) harr⟩
  obtain ⟨e, a', w', hq, harr⟩ := key k a w h₀
  exact ⟨e, a', w', hq, .of_steps (.one step_loop) harr⟩

/-- The whole of a function's code. -/
theorem evC_sound (hE : EnvOK E P) {X : Ctx E} (hC : CSound E P X.C) : ∀ (c : Code), HOK X c → ∀ {S : St E} {K : Exit → St E → Option R} {G : Gh} {a : Act} {w : World} {Q : Exit → Act → World → Prop}, evC X c S K = some r → Mr E w0 Φ I0 G S.m S.n w → Tr E G S.ts S.m S.n a w →
    (∀ e S' G' a' w', K e S' = some r → Mr E w0 Φ I0 G' S'.m S'.n w' → Tr E G' S'.ts S'.m S'.n a' w' → Q e a' w') → c.wp P Q a w := by
  intro c
  induction c with
  | skip => intro _ S K G a w Q h hM hT hK; exact wp_skip (hK _ _ _ _ _ h hM hT)
  | region id ops draw =>
    intro _ S K G a w Q h hM hT hK
    simp only [evC] at h
    split at h
    · rename_i hd
      subst hd
      split at h
      · rename_i hB
        split at h
        · exact region_draw hE hC hB h hM hT fun ts G a w hk hm ht => by
            rw [forceN_eq] at hk
            exact hK .normal ⟨ts, S.m, _⟩ G a w hk hm ht
        · exact region_drawE hE hC hB (K := fun ts m n => K .normal ⟨ts, m, n⟩) h hM hT fun ts m n G a w hk hm ht => hK .normal ⟨ts, m, n⟩ G a w hk hm ht
      · cases h
    · rename_i hd
      have hd' : draw = false := by simpa using hd
      subst hd'
      refine wp_region ?_
      have := evOps_sound (Q := Q) hE hC (ops := ops) (K := fun ts m n => K .normal ⟨ts, m, n⟩) (fun ts m n G a w hk hm ht => hK .normal ⟨ts, m, n⟩ G a w hk hm ht) ops.toList 0 S.n S.ts S.m G a w rfl h hM hT
      rwa [← List.range_eq_range', Array.length_toList] at this
  | seq x y ihx ihy =>
    intro hH S K G a w Q h hM hT hK
    simp only [evC] at h
    refine wp_seq (ihx ⟨fun a ha => hH.l a (by simp [loopsOf, ha]), fun q hq => hH.j q (by simp [condsOf, hq])⟩ h hM hT fun e S' G' a' w' hk hm ht => ?_)
    cases e with
    | normal => exact ihy ⟨fun a ha => hH.l a (by simp [loopsOf, ha]), fun q hq => hH.j q (by simp [condsOf, hq])⟩ hk hm ht hK
    | _ => exact hK _ S' G' a' w' hk hm ht
  | cond x y z ihy ihz =>
    intro hH S K G a w Q h hM hT hK
    simp only [evC] at h
    have ihy := fun {S} {K} {G} {a} {w} {Q} => @ihy ⟨fun a ha => hH.l a (by simp [loopsOf, ha]), fun q hq => hH.j q (by simp [condsOf, hq])⟩ S K G a w Q
    have ihz := fun {S} {K} {G} {a} {w} {Q} => @ihz ⟨fun a ha => hH.l a (by simp [loopsOf, ha]), fun q hq => hH.j q (by simp [condsOf, hq])⟩ S K G a w Q
    split at h
    · rename_i hd hj
      obtain ⟨S1, h, hM, hT⟩ := headS_sound hM hT h
      obtain ⟨v, h1, h2⟩ := Option.bind_eq_some_iff.1 h
      have h3 := hH.j (x, y, z) (by simp [condsOf, hj]) hd hj S1 v h1 K r h2
      unfold evJ at h3
      have hx := Aeval_rel hT x
      simp only at h3
      split at h3
      · rename_i q hq
        rw [hq] at hx
        have hx' : a.eval x = .bool q := hx.1
        split at h3
        · rename_i hqt; subst hqt
          exact wp_cond_true hx' (ihy h3 hM hT fun e S' G' a' w' hk hm ht => by
            obtain ⟨S2, G2, g1, g2, g3⟩ := canonX_sound hm ht hk
            exact hK e S2 G2 a' w' g1 g2 g3)
        · rename_i hqt
          have hqf : q = false := by simpa using hqt
          subst hqf
          exact wp_cond_false hx' (ihz h3 hM hT fun e S' G' a' w' hk hm ht => by
            obtain ⟨S2, G2, g1, g2, g3⟩ := canonX_sound hm ht hk
            exact hK e S2 G2 a' w' g1 g2 g3)
      · cases h3
    · have hx := Aeval_rel hT x
      split at h
      · rename_i q hq
        rw [hq] at hx
        have hx' : a.eval x = .bool q := hx.1
        split at h
        · rename_i hqt; subst hqt; exact wp_cond_true hx' (ihy h hM hT hK)
        · rename_i hqt
          have hqf : q = false := by simpa using hqt
          subst hqf
          exact wp_cond_false hx' (ihz h hM hT hK)
      · cases h
  | block id x ih =>
    intro hH S K G a w Q h hM hT hK
    simp only [evC] at h
    refine wp_block (ih ⟨fun a ha => hH.l a (by simpa [loopsOf] using ha), fun q hq => hH.j q (by simpa [condsOf] using hq)⟩ h hM hT fun e S' G' a' w' hk hm ht => ?_)
    cases e with
    | exit i =>
      simp only at hk
      simp only [Exit.inBlock]
      split at hk
      · rename_i e; rw [if_pos e]; exact hK _ S' G' a' w' hk hm ht
      · rename_i e; rw [if_neg e]; exact hK _ S' G' a' w' hk hm ht
    | _ => exact hK _ S' G' a' w' hk hm ht
  | loop x ih =>
    intro hH S K G a w Q h hM hT hK
    have ih := fun {S} {K} {G} {a} {w} {Q} => @ih ⟨fun a ha => hH.l a (by simp [loopsOf, ha]), fun q hq => hH.j q (by simpa [condsOf] using hq)⟩ S K G a w Q
    simp only [evC] at h
    split at h
    · rename_i hd hj
      obtain ⟨S1, h, hM1, hT1⟩ := headS_sound hM hT h
      obtain ⟨v, h1, h2⟩ := Option.bind_eq_some_iff.1 h
      obtain ⟨k, h3⟩ := hH.l x (by simp [loopsOf]) hd hj S1 v h1 K r h2
      let J : Nat → Act → World → Prop := fun k a w => ∃ S' G', evL X x S1 K k S' = some r ∧ Mr E w0 Φ I0 G' S'.m S'.n w ∧ Tr E G' S'.ts S'.m S'.n a w
      refine wp_loop_rounds J (fun k a w hJ => ?_) (k := k) ⟨S1, G, h3, hM1, hT1⟩
      obtain ⟨S', G', h1, h2, h3⟩ := hJ
      cases k with
      | zero => simp [evL, iter] at h1
      | succ k =>
        simp only [evL, iter, iterStep] at h1
        refine ih h1 h2 h3 fun e S2 G2 a2 w2 hk hm ht => ?_
        have out : canonX (X.keepX (codeNo x)) S1.ts (S1.n + X.span (codeNo x)) S2 (K e) = some r → Q e a2 w2 := fun hk => by
          obtain ⟨S3, G3, g1, g2, g3⟩ := canonX_sound hm ht hk
          exact hK e S3 G3 a2 w2 g1 g2 g3
        cases e with
        | normal =>
          obtain ⟨S3, G3, g1, g2, g3⟩ := canon_sound hM1.nn hm ht hk
          exact ⟨k, Nat.lt_succ_self k, S3, G3, g1, g2, g3⟩
        | _ => exact out hk
    · cases h
  | exit id => intro _ S K G a w Q h hM hT hK; exact wp_exit (hK _ _ _ _ _ h hM hT)
  | ret => intro _ S K G a w Q h hM hT hK; exact wp_ret (hK _ _ _ _ _ h hM hT)
  | _ => intro _ S K G a w Q h; simp only [evC] at h; cases h
end
end Go.B
