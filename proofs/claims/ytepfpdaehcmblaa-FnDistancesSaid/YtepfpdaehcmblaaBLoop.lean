/- Loops, branches: what the reckoner says of the program's code. -/
import Derived.Test.YtepfpdaehcmblaaBDrawG
namespace Go.B
open Go Go.RowKit
set_option linter.unusedVariables false
set_option linter.unusedSimpArgs false
variable {E : Env} {P : Program}
section
variable {R : Type} {G : Gh} {w w0 w1 w' : World} {m m' m1 m2 : Mem E} {n : Nat} {r : R} {Φ Ψ : Nat → Prop} {I0 : Ent} {ts : List (AV E)} {a : Act} {Q : Exit → Act → World → Prop}
theorem look_ins (i : Nat) (b : Blk E) : ∀ (m : Mem E) (j : Nat), look (insM i b m) j = if i = j then some b else look m j
 | [], j => by
  simp only [insM, look]
  cases decEq i j with
  | isTrue e => simp [e]
  | isFalse e => simp [e]
 | (l, c) :: m, j => by
  simp only [insM]
  cases decEq i l with
  | isTrue e =>
   subst e
   simp only [look]
   cases decEq i j with
   | isTrue e => simp [e]
   | isFalse e => simp [e]
  | isFalse e =>
   cases Nat.decLt i l with
   | isTrue h =>
    simp only [look]
    cases decEq i j with
    | isTrue e => simp [e]
    | isFalse e => simp [e]
   | isFalse h =>
    simp only [look]
    cases decEq l j with
    | isTrue e' => subst e'; simp [e]
    | isFalse e' => exact look_ins i b m j
theorem look_gc (is : List Nat) : ∀ (m : Mem E) (j : Nat), look (gcM is m) j = if memN j is = true then look m j else none
 | [], j => by simp [gcM, look]
 | (i, b) :: m, j => by
  simp only [gcM]
  split
  ·rename_i h
   rw [look_ins, look_gc is m j]
   simp only [look]
   cases decEq i j with
   | isTrue e => subst e; simp [h]
   | isFalse e => simp [e]
  ·rename_i h
   rw [look_gc is m j]
   simp only [look]
   cases decEq i j with
   | isTrue e => subst e; simp [h]
   | isFalse e => rfl
theorem gc_sound (is : List Nat) (hM : Mr E w0 Φ I0 G m n w) (hT : Tr E G ts m n a w) : Mr E w0 Φ I0 G (gcM is m) n w ∧ Tr E G ts (gcM is m) n a w := by
 have hlk : ∀ j b, look (gcM is m) j = some b → look m j = some b := fun j b h => by
  rw [look_gc] at h
  split at h
  ·exact h
  ·cases h
 have hA : ∀ b u, A1r E G w m n b u → A1r E G w (gcM is m) n b u := fun b u h => by
  cases b with
  | s v => exact h
  | imm e xs => exact h
  | ip e x off => exact h
  | junk => exact h
  | fnp g xs => exact h
  | fn g ids => exact FnR.keep' h (Nat.le_refl _) fun p cs _ hl => ⟨rfl, cs, hlk p.1 _ hl⟩
  | row j => exact ⟨h.1, h.2.1, fun d e xs hl => h.2.2 _ _ _ (hlk j _ hl)⟩
  | win j lo k => exact ⟨h.1, h.2.1, fun d e xs hl => h.2.2 _ _ _ (hlk j _ hl)⟩
  | bp j off => exact ⟨h.1, h.2.1, fun cs hl => h.2.2 _ (hlk j _ hl)⟩
  | ap j lo k x => exact ⟨h.1, h.2.1, fun cs hl => h.2.2 _ (hlk j _ hl)⟩
  | rp j x off => exact ⟨h.1, h.2.1, fun d e xs hl => h.2.2 _ _ _ (hlk j _ hl)⟩
  | rv j => exact ⟨h.1, h.2.1, fun e xs hl => h.2.2 _ _ (hlk j _ hl)⟩
  | vp j x off => exact ⟨h.1, h.2.1, fun e xs hl => h.2.2 _ _ (hlk j _ hl)⟩
  | hd j x off => exact ⟨h.1, h.2.1, fun e xs hl => h.2.2 _ _ (hlk j _ hl)⟩
  | hp j x off l o => exact ⟨h.1, h.2.1, fun e xs hl => h.2.2 _ _ (hlk j _ hl)⟩
 refine ⟨⟨hM.fr, fun j b hj => hM.lt j b (hlk j b hj), fun j b hj => ?_, fun j b hj => hM.lo j b (hlk j b hj), fun i j b b' hi hj => hM.dj i j b b' (hlk i b hi) (hlk j b' hj), hM.il, hM.ii, hM.ip, hM.nn, fun j cs hj hc => hM.an j cs hj (hlk j _ hc), fun j d e xs hj hc => hM.ar j d e xs hj (hlk j _ hc)⟩, ?_⟩
 ·have hb := hM.bl j b (hlk j b hj)
  cases b with
  | box cs =>
   obtain ⟨⟨arr, ty, g1, g2⟩, g3⟩ := hb
   refine ⟨⟨arr, ty, g1, ?_⟩, g3⟩
   have := A1l_map (f := fun b => b) hA g2
   rwa [List.map_id'] at this
  | row d e xs => exact hb
  | rowV e xs => exact hb
 ·have := mapT_rel (f := fun b => b) hA hT
  have e : ∀ (x : AV E), mapAV (fun b => b) x = x := fun x => by
   have e2 : ∀ (x : A2 E), mapA2 (fun b => b) x = x := fun x => by cases x <;> simp [mapA2]
   cases x with
   | v x => simp [mapAV, e2]
   | tup vs => simp only [mapAV]; rw [show (mapA2 fun b : A1 E => b) = _root_.id from funext e2]; simp
  rwa [show (mapAV fun b : A1 E => b) = _root_.id from funext e, List.map_id] at this
theorem gcK_eq {R : Type} (ts : List (AV E)) (m : Mem E) (k : Mem E → R) : ∃ is, gcK ts m k = k (gcM is m) := by
 have hL : ∀ {R : Type} (as : List (A1 E)) (is : List Nat) (k : List Nat → R), ∃ js, idsLK as is k = k js := fun {R} as => by
  induction as with
  | nil => exact fun is k => ⟨is, rfl⟩
  | cons x as ih => intro is k; cases x <;> exact ih _ k
 have hT : ∀ {R : Type} (ts : List (AV E)) (is : List Nat) (k : List Nat → R), ∃ js, idsK ts is k = k js := fun {R} ts => by
  induction ts with
  | nil => exact fun is k => ⟨is, rfl⟩
  | cons x ts ih =>
   intro is k
   cases x with
   | v x =>
    cases x with
    | c x =>
     obtain ⟨js, h1⟩ := hL [x] is fun is => idsK ts is k
     obtain ⟨ks, h2⟩ := ih js k
     exact ⟨ks, h1.trans h2⟩
    | g cs =>
     obtain ⟨js, h1⟩ := hL cs is fun is => idsK ts is k
     obtain ⟨ks, h2⟩ := ih js k
     exact ⟨ks, h1.trans h2⟩
   | tup vs => exact ih is k
 have hMm : ∀ {R : Type} (m : Mem E) (is : List Nat) (k : List Nat → R), ∃ js, idsMK m is k = k js := fun {R} m => by
  induction m with
  | nil => exact fun is k => ⟨is, rfl⟩
  | cons x m ih =>
   intro is k
   obtain ⟨i, b⟩ := x
   cases b with
   | box cs =>
    obtain ⟨js, h1⟩ := hL cs is fun is => idsMK m is k
    obtain ⟨ks, h2⟩ := ih js k
    exact ⟨ks, h1.trans h2⟩
   | row d e xs => exact ih is k
   | rowV e xs => exact ih is k
 unfold gcK
 obtain ⟨js, h1⟩ := hT ts [] fun is => idsMK m is fun is => forceM (gcM is m) k
 obtain ⟨ks, h2⟩ := hMm m js fun is => forceM (gcM is m) k
 exact ⟨ks, by rw [h1, h2, forceM_eq]⟩
theorem canon_sound {z : Nat} (hz : I0.M ≤ z) {keep : List Tmp} {us : List (AV E)} {um : Mem E} {n0 : Nat} {S : St E} {k : St E → Option R} (hN : I0.N ≤ n0) (hM : Mr E w0 Φ I0 G S.m S.n w) (hT : Tr E G S.ts S.m S.n a w) (h : canon z keep us um n0 S k = some r) :
  ∃ S' G', k S' = some r ∧ Mr E w0 Φ I0 G' S'.m S'.n w ∧ Tr E G' S'.ts S'.m S'.n a w := by
 unfold canon at h
 obtain ⟨is0, e0⟩ := gcK_eq (keepT keep 0 S.ts) S.m fun m0 => match renames z S.n 9 us um (keepT keep 0 S.ts) m0 with
  | some (ts, m) => forceT (ts.map (mapAV (lowA n0))) fun ts => gcK ts (mapM (lowA n0) (lowM n0 m)) fun m => k ⟨ts, m, n0⟩
  | none => none
 replace h := e0.symm.trans h
 obtain ⟨hM0, hT0⟩ := gc_sound is0 hM (keepT_rel keep hT)
 split at h
 ·rename_i ts m hr
  obtain ⟨G', h1, h2⟩ := renames_sound hz 9 us um hM0 hT0 hr
  rw [forceT_eq] at h
  obtain ⟨is, e⟩ := gcK_eq (ts.map (mapAV (lowA n0))) (mapM (lowA n0) (lowM n0 m)) fun m => k ⟨ts.map (mapAV (lowA n0)), m, n0⟩
  rw [e] at h
  obtain ⟨h3, h4⟩ := low_sound (n0 := n0) hN h1 h2
  obtain ⟨h5, h6⟩ := gc_sound is h3 h4
  exact ⟨_, G', h, h5, h6⟩
 ·cases h
theorem canonX_sound {z : Nat} (hz : I0.M ≤ z) {keep : List Tmp} {us : List (AV E)} {um : Mem E} {n1 : Nat} {S : St E} {k : St E → Option R} (hM : Mr E w0 Φ I0 G S.m S.n w) (hT : Tr E G S.ts S.m S.n a w) (h : canonX z keep us um n1 S k = some r) :
  ∃ S' G', k S' = some r ∧ Mr E w0 Φ I0 G' S'.m S'.n w ∧ Tr E G' S'.ts S'.m S'.n a w := by
 unfold canonX at h
 obtain ⟨is0, e0⟩ := gcK_eq (keepT keep 0 S.ts) S.m fun m0 => match renames z S.n 9 us um (keepT keep 0 S.ts) m0 with
  | some (ts, m) => forceT ts fun ts => gcK ts m fun m => match Nat.decLe S.n n1 with
   | isTrue _ => k ⟨ts, m, n1⟩
   | isFalse _ => none
  | none => none
 replace h := e0.symm.trans h
 obtain ⟨hM0, hT0⟩ := gc_sound is0 hM (keepT_rel keep hT)
 split at h
 ·rename_i ts m hr
  obtain ⟨G', h1, h2⟩ := renames_sound hz 9 us um hM0 hT0 hr
  rw [forceT_eq] at h
  obtain ⟨is, e⟩ := gcK_eq ts m fun m => match Nat.decLe S.n n1 with
   | isTrue _ => k ⟨ts, m, n1⟩
   | isFalse _ => none
  replace h := e.symm.trans h
  split at h
  ·rename_i hn _
   obtain ⟨h5, h6⟩ := gc_sound is h1 h2
   exact ⟨_, G', h, h5.to hn, h6.to hn⟩
  ·cases h
 ·cases h
theorem headS_sound {keep : List Tmp} {S : St E} {k : St E → Option R} (hM : Mr E w0 Φ I0 G S.m S.n w) (hT : Tr E G S.ts S.m S.n a w) (h : headS keep S k = some r) :
  ∃ S', k S' = some r ∧ Mr E w0 Φ I0 G S'.m S'.n w ∧ Tr E G S'.ts S'.m S'.n a w := by
 unfold headS at h
 rw [forceT_eq] at h
 obtain ⟨is, e⟩ := gcK_eq (keepT keep 0 S.ts) S.m fun m => gcK (keepT keep 0 S.ts) m fun m => k ⟨keepT keep 0 S.ts, m, S.n⟩
 rw [e] at h
 obtain ⟨h5, h6⟩ := gc_sound is hM (keepT_rel keep hT)
 obtain ⟨is2, e2⟩ := gcK_eq (keepT keep 0 S.ts) (gcM is S.m) fun m => k ⟨keepT keep 0 S.ts, m, S.n⟩
 rw [e2] at h
 obtain ⟨h7, h8⟩ := gc_sound is2 h5 h6
 exact ⟨_, h, h7, h8⟩
theorem box_anew (hM : Mr E w0 Φ I0 G m n w) (hT : Tr E G ts m n a w) {id : Nat} {cs cs' : List (A1 E)} (hb : look m id = some (.box cs)) (hc : ∀ arr ty, w.heap[G.bk id]? = some (.cells arr ty (0, 0)) → A1l E G w m n cs arr → A1l E G w m n cs' arr) :
  Mr E w0 Φ I0 G (setm m id (.box cs')) n w ∧ Tr E G ts (setm m id (.box cs')) n a w := by
 have hm : Mle G m n G (setm m id (.box cs')) := fun j hj => by
  refine ⟨fun d e xs hl => ?_, fun c hl => ?_, fun e xs hl => ?_⟩
  ·rw [look_set] at hl
   split at hl
   ·cases hl
   ·exact ⟨rfl, d, xs, hl, rfl⟩
  ·rw [look_set] at hl
   split at hl
   ·rename_i e; subst e; exact ⟨rfl, cs, hb⟩
   ·exact ⟨rfl, c, hl⟩
  ·rw [look_set] at hl
   split at hl
   ·cases hl
   ·exact ⟨rfl, rfl, xs, hl, rfl, fun i j e' ys' _ h => ⟨ys', h⟩⟩
 have hlk : ∀ j b, look (setm m id (.box cs')) j = some b → ∃ b', look m j = some b' := fun j b hl => by
  rw [look_set] at hl
  split at hl
  ·rename_i e; subst e; exact ⟨_, hb⟩
  ·exact ⟨b, hl⟩
 have hk : ∀ k, G.I k → G.I k ∧ w.heap[k]? = w.heap[k]? := fun k hk => ⟨hk, rfl⟩
 refine ⟨⟨hM.fr, fun j b hl => ?_, fun j b hl => ?_, fun j b hl => ?_, fun i j b b' hi hj => ?_, hM.il, hM.ii, hM.ip, hM.nn, fun j c hj hl => ?_, fun j d e xs hj hl => ?_⟩, hT.keep hm (Nat.le_refl _) hk⟩
 ·obtain ⟨b', hb'⟩ := hlk j b hl; exact hM.lt j b' hb'
 ·rw [look_set] at hl
  split at hl
  ·rename_i e
   subst e
   cases hl
   obtain ⟨⟨arr, ty, h1, h2⟩, h3⟩ := hM.bl id _ hb
   exact ⟨⟨arr, ty, h1, (hc arr ty h1 h2).keep hm (Nat.le_refl _) hk⟩, h3⟩
  ·have h1 := hM.bl j b hl
   cases b with
   | row d e xs => exact h1
   | rowV e xs => exact h1
   | box c => obtain ⟨⟨arr, ty, h2, h3⟩, h4⟩ := h1; exact ⟨⟨arr, ty, h2, h3.keep hm (Nat.le_refl _) hk⟩, h4⟩
 ·obtain ⟨b', hb'⟩ := hlk j b hl; exact hM.lo j b' hb'
 ·obtain ⟨b1, h1⟩ := hlk i b hi
  obtain ⟨b2, h2⟩ := hlk j b' hj
  exact hM.dj i j b1 b2 h1 h2
 ·rw [look_set] at hl
  split at hl
  ·rename_i e; subst e; exact hM.an id cs hj hb
  ·exact hM.an j c hj hl
 ·rw [look_set] at hl
  split at hl
  ·cases hl
  ·exact hM.ar j d e xs hj hl
theorem nil_row (hM : Mr E w0 Φ I0 G m n w) (hT : Tr E G ts m n a w) (e : TypeId) : ∃ G', Mr E w0 Φ I0 G' (setm m n (.row true e [])) (n + wide) w ∧ Tr E G' ts (setm m n (.row true e [])) (n + wide) a w ∧ A1r E G' w (setm m n (.row true e [])) (n + wide) (.row n) (.slice none 0 0) := by
 obtain ⟨G', g1, g2, g3⟩ := row_put (Ψ := fun _ => False) (F := fun _ _ _ => False) (d := true) (xs := ([] : List (E.T e))) (inner := []) (v := .slice none 0 0) hM hT (Frame.refl _ _) (fun _ h => h.elim) ⟨by simp, .inl ⟨rfl, rfl⟩⟩ (fun k hk => by simp [Value.ownBlock] at hk)
  (fun x y hx => absurd hx (Nat.not_lt_zero _)) (fun x y k hx => absurd hx (Nat.not_lt_zero _)) (fun x y x' y' k hx => absurd hx (Nat.not_lt_zero _))
 exact ⟨G', g1, g2, g3⟩
theorem nil_rd {I : Nat → Prop} (e : TypeId) : Rd E w I (.slice none 0 0) (.sl e []) :=
 Rd.sl (val := fun _ _ => undef) rfl (Nat.le_refl _) (Nat.zero_le _) (fun h => absurd h (Nat.lt_irrefl _)) (fun i j h => absurd h (Nat.not_lt_zero _)) (fun i j h => absurd h (Nat.not_lt_zero _))
theorem freeze_one (hM : Mr E w0 Φ I0 G m n w) (hT : Tr E G ts m n a w) {id : Nat} {d : Bool} {e : TypeId} {xs : List (E.T e)} (hl : look m id = some (.row d e xs)) :
  ∃ G', Mr E w0 Φ I0 G' (delm m id) n w ∧ Tr E G' ts (delm m id) n a w ∧ Rd E w G'.I (G.hd id) (.sl e xs) ∧ G'.bk = G.bk := by
 refine ⟨{ G with I := SeenI G m [id] }, hM.freezeAll [id], hT.keep (Mle.of rfl rfl rfl fun j b hj => by rw [look_del] at hj; split at hj; cases hj; exact hj) (Nat.le_refl _) fun k hk => ⟨.inl hk, rfl⟩, ?_, rfl⟩
 exact Top.rd (hM.bl id _ hl) (fun k hk => .inl hk) (fun k hk => .inr ⟨id, by simp, ⟨_, hl⟩, hk⟩)
theorem setT_one (hT : Tr E G ts m n a w) {t : Nat} {x y : AV E} (h : geta ts t = some x) (hy : AVr E G w m n x (a.tmps.getD t undef) → AVr E G w m n y (a.tmps.getD t undef)) : Tr E G (setl ts t y) m n a w := by
 refine ⟨hT.df, by rw [setl_eq, List.length_set]; exact hT.sz, fun t' z hz => ?_⟩
 rw [setl_eq, List.getElem?_set] at hz
 split at hz
 ·split at hz
  ·rename_i e1 _
   subst e1
   cases hz
   exact hy (hT.tm t _ (by rw [← geta_eq]; exact h))
  ·cases hz
 ·exact hT.tm t' z hz
theorem prep1_sound (p : Prep) {S : St E} (hM : Mr E w0 Φ I0 G S.m S.n w) (hT : Tr E G S.ts S.m S.n a w) : ∃ S' G', (∀ {R : Type} (k : St E → R), prep1 p S k = k S') ∧ Mr E w0 Φ I0 G' S'.m S'.n w ∧ Tr E G' S'.ts S'.m S'.n a w := by
 have same : ∀ q : Prep, (∀ {R : Type} (k : St E → R), prep1 q S k = k S) → ∃ S' G', (∀ {R : Type} (k : St E → R), prep1 q S k = k S') ∧ Mr E w0 Φ I0 G' S'.m S'.n w ∧ Tr E G' S'.ts S'.m S'.n a w := fun q h => ⟨S, G, h, hM, hT⟩
 cases p with
 | weak id =>
  cases hl : look S.m id with
  | none => exact same _ fun k => by simp only [prep1, hl]
  | some b =>
   cases b with
   | box cs => exact same _ fun k => by simp only [prep1, hl]
   | rowV e xs => exact same _ fun k => by simp only [prep1, hl]
   | row d e xs =>
    cases d with
    | false => exact same _ fun k => by simp only [prep1, hl]
    | true =>
     obtain ⟨G', g1, g2, g3, g4⟩ := weaken_sound hM hl
     exact ⟨⟨S.ts, setm S.m id (.row false e xs), S.n⟩, G', fun k => by simp only [prep1, hl, setmK_eq], g1, hT.keep g2 (Nat.le_refl _) g4⟩
 | nilT t e =>
  by_cases h : geta S.ts t = some (.v (.c (.s (.slice none 0 0))))
  ·obtain ⟨G', g1, g2, g3⟩ := nil_row hM hT e
   refine ⟨⟨setl S.ts t (.v (.c (.row S.n))), setm S.m S.n (.row true e []), S.n + wide⟩, G', fun k => by simp only [prep1, h, setlK_eq, setmK_eq, forceN_eq], g1, g2.df, by rw [setl_eq, List.length_set]; exact g2.sz, fun t' x hx => ?_⟩
   rw [setl_eq, List.getElem?_set] at hx
   split at hx
   ·split at hx
    ·rename_i e1 _
     subst e1
     cases hx
     have h2 := hT.tm t _ (by rw [← geta_eq]; exact h)
     have h3 : a.tmps.getD t undef = .slice none 0 0 := h2.1
     rw [h3]
     exact g3
    ·cases hx
   ·exact g2.tm t' x hx
  ·refine same _ fun k => ?_
   simp only [prep1]
   all_goals (split <;> first | exact absurd ‹_› h | rfl)
 | nilB id j e =>
  cases hl : look S.m id with
  | none => exact same _ fun k => by simp only [prep1, hl]
  | some b =>
   cases b with
   | row d e' xs => exact same _ fun k => by simp only [prep1, hl]
   | rowV e' xs => exact same _ fun k => by simp only [prep1, hl]
   | box cs =>
    by_cases h : geta cs j = some (.s (.slice none 0 0))
    ·obtain ⟨G', g1, g2, g3⟩ := nil_row hM hT e
     have hne : S.n ≠ id := fun e => by have := hM.lt id _ hl; omega
     have hl' : look (setm S.m S.n (.row true e [])) id = some (.box cs) := by rw [look_set, if_neg hne]; exact hl
     obtain ⟨g4, g5⟩ := box_anew (cs' := setl cs j (.row S.n)) g1 g2 hl' fun arr _ _ ha => by
      refine ⟨by rw [setl_eq, List.length_set]; exact ha.1, fun j' x hx => ?_⟩
      rw [setl_eq, List.getElem?_set] at hx
      split at hx
      ·split at hx
       ·rename_i e1 _
        subst e1
        cases hx
        have h2 := ha.2 j _ (by rw [← geta_eq]; exact h)
        have h3 : arr.getD j undef = .slice none 0 0 := h2.1.1
        rw [h3]
        exact ⟨g3, rfl⟩
       ·cases hx
      ·exact ha.2 j' x hx
     exact ⟨⟨S.ts, setm (setm S.m S.n (.row true e [])) id (.box (setl cs j (.row S.n))), S.n + wide⟩, G', fun k => by simp only [prep1, hl, h, setlK_eq, setmK_eq, forceN_eq], g4, g5⟩
    ·refine same _ fun k => ?_
     simp only [prep1, hl]
     all_goals (split <;> first | exact absurd ‹_› h | rfl)
 | empT t =>
  by_cases h : ∃ id d e, geta S.ts t = some (.v (.c (.row id))) ∧ look S.m id = some (.row d e [])
  ·obtain ⟨id, d, e, h1, h2⟩ := h
   refine ⟨⟨setl S.ts t (.v (.c (.imm e []))), S.m, S.n⟩, G, fun k => by simp only [prep1, h1, h2, setlK_eq], hM, hT.df, by rw [setl_eq, List.length_set]; exact hT.sz, fun t' x hx => ?_⟩
   rw [setl_eq, List.getElem?_set] at hx
   split at hx
   ·split at hx
    ·rename_i e1 _
     subst e1
     cases hx
     have h3 := hT.tm t _ (by rw [← geta_eq]; exact h1)
     have h4 : a.tmps.getD t undef = G.hd id := h3.2.2 _ _ _ h2
     obtain ⟨inner, F, ho, _⟩ : Top E w G.I d (G.fp id) (G.hd id) e [] := hM.bl id _ h2
     rw [h4]
     obtain ⟨A, cap, hv, hc, hm, ha, _⟩ := ownsG_form ho
     rw [hv]
     exact Rd.sl (val := fun _ _ => undef) rfl hc hm ha (fun i j hi => absurd hi (Nat.not_lt_zero _)) (fun i j hi => absurd hi (Nat.not_lt_zero _))
    ·cases hx
   ·exact hT.tm t' x hx
  ·refine same _ fun k => ?_
   simp only [prep1]
   split
   ·split
    ·rename_i h1 _ _ _ h2
     exact absurd ⟨_, _, _, h1, h2⟩ h
    ·rfl
   ·rfl
 | mvT t =>
  by_cases h : ∃ id d e xs, geta S.ts t = some (.v (.c (.row id))) ∧ look S.m id = some (.row d e xs)
  ·obtain ⟨id, d, e, xs, h1, h2⟩ := h
   have hn : look S.m S.n = none := by
    cases hh : look S.m S.n with
    | none => rfl
    | some b => exact absurd (hM.lt _ _ hh) (Nat.lt_irrefl _)
   obtain ⟨G', g1, g2⟩ := ren_sound (hM.to (Nat.le_add_right S.n wide)) (hT.to (Nat.le_add_right S.n wide)) (c := S.n) (by simp [wide]) (Nat.le_trans I0.mn hM.nn) hn h2
   exact ⟨⟨S.ts.map (mapAV (renA id S.n)), setm (delm (mapM (renA id S.n) S.m) id) S.n (.row d e xs), S.n + wide⟩, G', fun k => by simp only [prep1, h1, h2, forceN_eq], g1, g2⟩
  ·refine same _ fun k => ?_
   simp only [prep1]
   split
   ·split
    ·rename_i h1 _ _ _ _ h2
     exact absurd ⟨_, _, _, _, h1, h2⟩ h
    ·rfl
   ·rfl
 | frzT t e =>
  by_cases h0 : geta S.ts t = some (.v (.c (.s (.slice none 0 0))))
  ·refine ⟨⟨setl S.ts t (.v (.c (.imm e []))), S.m, S.n⟩, G, fun k => by simp only [prep1, h0, setlK_eq], hM, setT_one hT h0 fun h => ?_⟩
   have h3 : a.tmps.getD t undef = .slice none 0 0 := h.1
   rw [h3]
   exact nil_rd e
  by_cases h : ∃ id d e xs, geta S.ts t = some (.v (.c (.row id))) ∧ look S.m id = some (.row d e xs)
  ·obtain ⟨id, d, e', xs, h1, h2⟩ := h
   obtain ⟨G', g1, g2, g3, _⟩ := freeze_one hM hT h2
   refine ⟨⟨setl S.ts t (.v (.c (.imm e' xs))), delm S.m id, S.n⟩, G', fun k => by simp only [prep1, h1, h2, setlK_eq, delmK_eq], g1, setT_one g2 h1 fun _ => ?_⟩
   have h5 := hT.tm t _ (by rw [← geta_eq]; exact h1)
   have h4 : a.tmps.getD t undef = G.hd id := h5.2.2 _ _ _ h2
   rw [h4]
   exact g3
  ·refine same _ fun k => ?_
   simp only [prep1]
   split
   ·rename_i h1; exact absurd h1 h0
   ·split
    ·rename_i h1 _ _ _ _ h2
     exact absurd ⟨_, _, _, _, h1, h2⟩ h
    ·rfl
   ·rfl
 | frzB id j e =>
  cases hl : look S.m id with
  | none => exact same _ fun k => by simp only [prep1, hl]
  | some b =>
   cases b with
   | row d e' xs => exact same _ fun k => by simp only [prep1, hl]
   | rowV e' xs => exact same _ fun k => by simp only [prep1, hl]
   | box cs =>
    by_cases h0 : geta cs j = some (.s (.slice none 0 0))
    ·obtain ⟨g4, g5⟩ := box_anew (cs' := setl cs j (.imm e [])) hM hT hl fun arr _ _ ha => by
      refine ⟨by rw [setl_eq, List.length_set]; exact ha.1, fun j' x hx => ?_⟩
      rw [setl_eq, List.getElem?_set] at hx
      split at hx
      ·split at hx
       ·rename_i e1 _
        subst e1
        cases hx
        have h2 := ha.2 j _ (by rw [← geta_eq]; exact h0)
        have h3 : arr.getD j undef = .slice none 0 0 := h2.1.1
        rw [h3]
        exact ⟨nil_rd e, rfl⟩
       ·cases hx
      ·exact ha.2 j' x hx
     exact ⟨⟨S.ts, setm S.m id (.box (setl cs j (.imm e []))), S.n⟩, G, fun k => by simp only [prep1, hl, h0, setlK_eq, setmK_eq], g4, g5⟩
    by_cases h : ∃ id' d e xs, geta cs j = some (.row id') ∧ look S.m id' = some (.row d e xs)
    ·obtain ⟨id', d, e', xs, h1, h2⟩ := h
     obtain ⟨G', g1, g2, g3, g6⟩ := freeze_one hM hT h2
     have hne : ¬ id' = id := fun e => by subst e; rw [hl] at h2; cases h2
     have hl' : look (delm S.m id') id = some (.box cs) := by rw [look_del, if_neg hne]; exact hl
     obtain ⟨⟨arr0, ty0, q1, q2⟩, _⟩ := hM.bl id _ hl
     obtain ⟨g4, g5⟩ := box_anew (cs' := setl cs j (.imm e' xs)) g1 g2 hl' fun arr ty hh ha => by
      rw [g6, q1] at hh
      cases hh
      refine ⟨by rw [setl_eq, List.length_set]; exact ha.1, fun j' x hx => ?_⟩
      rw [setl_eq, List.getElem?_set] at hx
      split at hx
      ·split at hx
       ·rename_i e1 _
        subst e1
        cases hx
        have h3 := q2.2 j _ (by rw [← geta_eq]; exact h1)
        refine ⟨?_, h3.2⟩
        rw [h3.1.2.2 _ _ _ h2]
        exact g3
       ·cases hx
      ·exact ha.2 j' x hx
     exact ⟨⟨S.ts, setm (delm S.m id') id (.box (setl cs j (.imm e' xs))), S.n⟩, G', fun k => by simp only [prep1, hl, h1, h2, setlK_eq, setmK_eq, delmK_eq], g4, g5⟩
    ·refine same _ fun k => ?_
     simp only [prep1, hl]
     split
     ·rename_i h1; exact absurd h1 h0
     ·split
      ·rename_i h1 _ _ _ _ h2
       exact absurd ⟨_, _, _, _, h1, h2⟩ h
      ·rfl
     ·rfl
theorem prepS_sound : ∀ (ps : List Prep) {S : St E} {G : Gh}, Mr E w0 Φ I0 G S.m S.n w → Tr E G S.ts S.m S.n a w → ∃ S' G', (∀ {R : Type} (k : St E → R), prepS ps S k = k S') ∧ Mr E w0 Φ I0 G' S'.m S'.n w ∧ Tr E G' S'.ts S'.m S'.n a w
 | [], S, G, hM, hT => ⟨S, G, fun k => rfl, hM, hT⟩
 | p :: ps, S, G, hM, hT => by
  obtain ⟨S1, G1, h1, h2, h3⟩ := prep1_sound p hM hT
  obtain ⟨S2, G2, h4, h5, h6⟩ := prepS_sound ps h2 h3
  exact ⟨S2, G2, fun k => by simp only [prepS]; rw [h1, h4], h5, h6⟩
theorem look_mapV (g : Nat → Blk E → Blk E) : ∀ (m : Mem E) (j : Nat), look (mapV g m) j = (look m j).map (g j)
 | [], j => rfl
 | (i, b) :: m, j => by
  simp only [mapV, look]
  cases decEq i j with
  | isTrue e => subst e; rfl
  | isFalse e => exact look_mapV g m j
theorem view_sound {np : Nat} {S : St E} (hM : Mr E w0 Φ I0 G S.m S.n w) (hT : Tr E G S.ts S.m S.n a w) :
  ∃ G', Mr E w0 Φ I0 G' (mapV (fun i b => viewB np i (viewA np S.m) b) S.m) S.n w ∧ Tr E G' (S.ts.map (mapAV (viewA np S.m))) (mapV (fun i b => viewB np i (viewA np S.m) b) S.m) S.n a w := by
 obtain ⟨ts, m, n⟩ := S
 simp only at hM hT ⊢
 classical
 let act : Nat → Nat → Nat → Value := fun id i j => match look m id, G.hd id with
  | some (.row _ e _), .slice (some ad) _ _ => (w.cell? ⟨ad.block, i * E.sz e + j, none⟩).getD undef
  | _, _ => undef
 let G' : Gh := { G with ih := fun id i j => if isV np m id = true then act id i j else G.ih id i j }
 have hlk : ∀ j, look (mapV (fun i b => viewB np i (viewA np m) b) m) j = (look m j).map (viewB np j (viewA np m)) := look_mapV _ m
 have hrow : ∀ j d e xs, look (mapV (fun i b => viewB np i (viewA np m) b) m) j = some (.row d e xs) → look m j = some (.row d e xs) := fun j d e xs h => by
  rw [hlk] at h
  obtain ⟨b, hb, h⟩ := Option.map_eq_some_iff.1 h
  cases b with
  | box cs => cases h
  | rowV e0 xs0 => cases h
  | row d0 e0 xs0 =>
   cases d0 with
   | false => cases h; exact hb
   | true =>
    simp only [viewB] at h
    split at h
    ·cases h
    ·cases h; exact hb
 have hbox : ∀ j cs, look (mapV (fun i b => viewB np i (viewA np m) b) m) j = some (.box cs) → ∃ cs0, look m j = some (.box cs0) ∧ cs = cs0.map (viewA np m) := fun j cs h => by
  rw [hlk] at h
  obtain ⟨b, hb, h⟩ := Option.map_eq_some_iff.1 h
  cases b with
  | box cs0 => cases h; exact ⟨cs0, hb, rfl⟩
  | rowV e0 xs0 => cases h
  | row d0 e0 xs0 =>
   cases d0 with
   | false => cases h
   | true =>
    simp only [viewB] at h
    split at h <;> cases h
 have hvw : ∀ j e xs, look (mapV (fun i b => viewB np i (viewA np m) b) m) j = some (.rowV e xs) → (isV np m j = true ∧ look m j = some (.row true e xs)) ∨ (isV np m j = false ∧ look m j = some (.rowV e xs)) := fun j e xs h => by
  rw [hlk] at h
  obtain ⟨b, hb, h⟩ := Option.map_eq_some_iff.1 h
  cases b with
  | box cs0 => cases h
  | rowV e0 xs0 => cases h; exact .inr ⟨by simp only [isV, hb], hb⟩
  | row d0 e0 xs0 =>
   cases d0 with
   | false => cases h
   | true =>
    simp only [viewB] at h
    split at h
    ·rename_i hc; cases h; exact .inl ⟨by simp only [isV, hb]; exact hc, hb⟩
    ·cases h
 have hlive : ∀ j b, look (mapV (fun i b => viewB np i (viewA np m) b) m) j = some b → ∃ b0, look m j = some b0 := fun j b h => by
  rw [hlk] at h
  obtain ⟨b0, hb, _⟩ := Option.map_eq_some_iff.1 h
  exact ⟨b0, hb⟩
 have hA : ∀ b u, A1r E G w m n b u → A1r E G' w (mapV (fun i b => viewB np i (viewA np m) b) m) n (viewA np m b) u := fun b u h => by
  cases b with
  | s v => exact h
  | imm e xs => exact h
  | ip e x off => exact h
  | junk => exact h
  | fnp g xs => exact h
  | fn g ids => exact FnR.keep' h (Nat.le_refl _) fun p cs _ hl => by obtain ⟨cs0, h1, _⟩ := hbox p.1 cs hl; exact ⟨rfl, cs0, h1⟩
  | bp id off => exact ⟨h.1, h.2.1, fun cs hl => by obtain ⟨cs0, h1, _⟩ := hbox id cs hl; exact h.2.2 _ h1⟩
  | ap id lo k x => exact ⟨h.1, h.2.1, fun cs hl => by obtain ⟨cs0, h1, _⟩ := hbox id cs hl; exact h.2.2 _ h1⟩
  | win id lo k => exact ⟨h.1, h.2.1, fun d e xs hl => h.2.2 d e xs (hrow id d e xs hl)⟩
  | rp id i off => exact ⟨h.1, h.2.1, fun d e xs hl => h.2.2 d e xs (hrow id d e xs hl)⟩
  | row id =>
   simp only [viewA]
   split
   ·rename_i hv
    refine ⟨h.1, h.2.1, fun e xs hl => ?_⟩
    rcases hvw id e xs hl with ⟨_, h1⟩ | ⟨h1, _⟩
    ·exact h.2.2 _ _ _ h1
    ·rw [hv] at h1; cases h1
   ·exact ⟨h.1, h.2.1, fun d e xs hl => h.2.2 d e xs (hrow id d e xs hl)⟩
  | rv id =>
   simp only [viewA]
   split
   ·trivial
   ·rename_i hv
    refine ⟨h.1, h.2.1, fun e xs hl => ?_⟩
    rcases hvw id e xs hl with ⟨h1, _⟩ | ⟨_, h1⟩
    ·rw [hv] at h1; cases h1
    ·exact h.2.2 _ _ h1
  | vp id i off =>
   simp only [viewA]
   split
   ·trivial
   ·rename_i hv
    refine ⟨h.1, h.2.1, fun e xs hl => ?_⟩
    rcases hvw id e xs hl with ⟨h1, _⟩ | ⟨_, h1⟩
    ·rw [hv] at h1; cases h1
    ·exact h.2.2 _ _ h1
  | hd id i off =>
   simp only [viewA]
   split
   ·trivial
   ·rename_i hv
    refine ⟨h.1, h.2.1, fun e xs hl => ?_⟩
    rcases hvw id e xs hl with ⟨h1, _⟩ | ⟨_, h1⟩
    ·rw [hv] at h1; cases h1
    ·have := h.2.2 _ _ h1
     simp only [G', hv]
     exact this
  | hp id i off j o =>
   simp only [viewA]
   split
   ·trivial
   ·rename_i hv
    refine ⟨h.1, h.2.1, fun e xs hl => ?_⟩
    rcases hvw id e xs hl with ⟨h1, _⟩ | ⟨_, h1⟩
    ·rw [hv] at h1; cases h1
    ·have := h.2.2 _ _ h1
     simp only [G', hv]
     exact this
 refine ⟨G', ⟨hM.fr, fun j b hj => ?_, fun j b hj => ?_, fun j b hj => ?_, fun i j b b' hi hj => ?_, hM.il, hM.ii, hM.ip, hM.nn, fun j cs hj hl => ?_, fun j d e xs hj hl => hM.ar j d e xs hj (hrow j d e xs hl)⟩, mapT_rel hA hT⟩
 ·obtain ⟨b0, h0⟩ := hlive j b hj; exact hM.lt j b0 h0
 ·cases b with
  | box cs =>
   obtain ⟨cs0, h1, rfl⟩ := hbox j cs hj
   obtain ⟨⟨arr, ty, g1, g2⟩, g3⟩ := hM.bl j _ h1
   exact ⟨⟨arr, ty, g1, A1l_map hA g2⟩, g3⟩
  | row d e xs => exact hM.bl j _ (hrow j d e xs hj)
  | rowV e xs =>
   rcases hvw j e xs hj with ⟨h1, h2⟩ | ⟨h1, h2⟩
   ·have ht : Top E w G.I true (G.fp j) (G.hd j) e xs := hM.bl j _ h2
    refine ⟨ht, fun x y e' ys g L cap hx hy hc hv => ?_⟩
    have hv : G.hd j = .slice (some ⟨g, 0, none⟩) L cap := hv
    obtain ⟨inner, F, ho, _⟩ := ht
    obtain ⟨g', cap', hv', _, hcell⟩ := ownsG_cell ho (x * E.sz e + y) (lt_of_pair hx hy)
    rw [hv] at hv'
    cases hv'
    rw [add_plain] at hcell
    simp only [G', h1, if_true, act, h2, hv, hcell, Option.getD_some]
   ·obtain ⟨ht, hd⟩ := hM.bl j _ h2
    refine ⟨ht, ?_⟩
    have : G'.ih j = G.ih j := by funext x y; simp only [G', h1]; rfl
    rw [this]; exact hd
 ·obtain ⟨b0, h0⟩ := hlive j b hj; exact hM.lo j b0 h0
 ·obtain ⟨b0, h0⟩ := hlive i b hi
  obtain ⟨b1, h1⟩ := hlive j b' hj
  exact hM.dj i j b0 b1 h0 h1
 ·obtain ⟨cs0, h1, _⟩ := hbox j cs hl; exact hM.an j cs0 hj h1
theorem unview_sound {np : Nat} (hz : I0.M ≤ np) {S : St E} (hM : Mr E w0 Φ I0 G S.m S.n w) (hT : Tr E G S.ts S.m S.n a w) :
  Mr E w0 Φ I0 G (mapV (fun i b => unB np i (unA np S.m) b) S.m) S.n w ∧ Tr E G (S.ts.map (mapAV (unA np S.m))) (mapV (fun i b => unB np i (unA np S.m) b) S.m) S.n a w := by
 obtain ⟨ts, m, n⟩ := S
 simp only at hM hT ⊢
 have hlk : ∀ j, look (mapV (fun i b => unB np i (unA np m) b) m) j = (look m j).map (unB np j (unA np m)) := look_mapV _ m
 have hrow : ∀ j d e xs, look (mapV (fun i b => unB np i (unA np m) b) m) j = some (.row d e xs) → (isU np m j = false ∧ look m j = some (.row d e xs)) ∨ (isU np m j = true ∧ d = true ∧ np ≤ j ∧ look m j = some (.rowV e xs)) := fun j d e xs h => by
  rw [hlk] at h
  obtain ⟨b, hb, h⟩ := Option.map_eq_some_iff.1 h
  cases b with
  | box cs => cases h
  | row d0 e0 xs0 => cases h; exact .inl ⟨by simp only [isU, hb], hb⟩
  | rowV e0 xs0 =>
   simp only [unB] at h
   split at h
   ·rename_i hc; cases h; exact .inr ⟨by simp only [isU, hb]; exact hc, rfl, Nat.le_of_ble_eq_true hc, hb⟩
   ·cases h
 have hbox : ∀ j cs, look (mapV (fun i b => unB np i (unA np m) b) m) j = some (.box cs) → ∃ cs0, look m j = some (.box cs0) ∧ cs = cs0.map (unA np m) := fun j cs h => by
  rw [hlk] at h
  obtain ⟨b, hb, h⟩ := Option.map_eq_some_iff.1 h
  cases b with
  | box cs0 => cases h; exact ⟨cs0, hb, rfl⟩
  | row d0 e0 xs0 => cases h
  | rowV e0 xs0 =>
   simp only [unB] at h
   split at h <;> cases h
 have hvw : ∀ j e xs, look (mapV (fun i b => unB np i (unA np m) b) m) j = some (.rowV e xs) → isU np m j = false ∧ look m j = some (.rowV e xs) := fun j e xs h => by
  rw [hlk] at h
  obtain ⟨b, hb, h⟩ := Option.map_eq_some_iff.1 h
  cases b with
  | box cs0 => cases h
  | row d0 e0 xs0 => cases h
  | rowV e0 xs0 =>
   simp only [unB] at h
   split at h
   ·cases h
   ·rename_i hc; cases h; exact ⟨by simp only [isU, hb]; exact hc, hb⟩
 have hlive : ∀ j b, look (mapV (fun i b => unB np i (unA np m) b) m) j = some b → ∃ b0, look m j = some b0 := fun j b h => by
  rw [hlk] at h
  obtain ⟨b0, hb, _⟩ := Option.map_eq_some_iff.1 h
  exact ⟨b0, hb⟩
 have isU_of : ∀ {id : Nat}, isU np m id = true → ∃ e xs, look m id = some (.rowV e xs) := fun {id} h => by
  unfold isU at h
  split at h
  ·exact ⟨_, _, ‹_›⟩
  ·cases h
 have hA : ∀ b u, A1r E G w m n b u → A1r E G w (mapV (fun i b => unB np i (unA np m) b) m) n (unA np m b) u := fun b u h => by
  have rw_ : ∀ {id d e} {xs : List (E.T e)}, isU np m id = false → look (mapV (fun i b => unB np i (unA np m) b) m) id = some (.row d e xs) → look m id = some (.row d e xs) := fun {id d e xs} hu hl => by
   rcases hrow id d e xs hl with ⟨_, h1⟩ | ⟨h1, _⟩
   ·exact h1
   ·rw [hu] at h1; cases h1
  cases b with
  | s v => exact h
  | imm e xs => exact h
  | ip e x off => exact h
  | junk => exact h
  | fnp g xs => exact h
  | fn g ids => exact FnR.keep' h (Nat.le_refl _) fun p cs _ hl => by obtain ⟨cs0, h1, _⟩ := hbox p.1 cs hl; exact ⟨rfl, cs0, h1⟩
  | bp id off => exact ⟨h.1, h.2.1, fun cs hl => by obtain ⟨cs0, h1, _⟩ := hbox id cs hl; exact h.2.2 _ h1⟩
  | ap id lo k x => exact ⟨h.1, h.2.1, fun cs hl => by obtain ⟨cs0, h1, _⟩ := hbox id cs hl; exact h.2.2 _ h1⟩
  | win id lo k =>
   simp only [unA]
   split
   ·trivial
   ·exact ⟨h.1, h.2.1, fun d e xs hl => h.2.2 d e xs (rw_ ‹_› hl)⟩
  | rp id i off =>
   simp only [unA]
   split
   ·trivial
   ·exact ⟨h.1, h.2.1, fun d e xs hl => h.2.2 d e xs (rw_ ‹_› hl)⟩
  | row id =>
   simp only [unA]
   split
   ·trivial
   ·exact ⟨h.1, h.2.1, fun d e xs hl => h.2.2 d e xs (rw_ ‹_› hl)⟩
  | rv id =>
   simp only [unA]
   split
   ·rename_i hu
    refine ⟨h.1, h.2.1, fun d e xs hl => ?_⟩
    obtain ⟨e0, xs0, h0⟩ := isU_of hu
    exact h.2.2 _ _ h0
   ·exact ⟨h.1, h.2.1, fun e xs hl => h.2.2 e xs (hvw id e xs hl).2⟩
  | vp id i off => exact ⟨h.1, h.2.1, fun e xs hl => h.2.2 e xs (hvw id e xs hl).2⟩
  | hd id i off => exact ⟨h.1, h.2.1, fun e xs hl => h.2.2 e xs (hvw id e xs hl).2⟩
  | hp id i off j o => exact ⟨h.1, h.2.1, fun e xs hl => h.2.2 e xs (hvw id e xs hl).2⟩
 refine ⟨⟨hM.fr, fun j b hj => ?_, fun j b hj => ?_, fun j b hj => ?_, fun i j b b' hi hj => ?_, hM.il, hM.ii, hM.ip, hM.nn, fun j cs hj hl => ?_, fun j d e xs hj hl => ?_⟩, mapT_rel hA hT⟩
 ·obtain ⟨b0, h0⟩ := hlive j b hj; exact hM.lt j b0 h0
 ·cases b with
  | box cs =>
   obtain ⟨cs0, h1, rfl⟩ := hbox j cs hj
   obtain ⟨⟨arr, ty, g1, g2⟩, g3⟩ := hM.bl j _ h1
   exact ⟨⟨arr, ty, g1, A1l_map hA g2⟩, g3⟩
  | row d e xs =>
   rcases hrow j d e xs hj with ⟨_, h1⟩ | ⟨_, rfl, _, h1⟩
   ·exact hM.bl j _ h1
   ·exact (hM.bl j _ h1).1
  | rowV e xs => exact hM.bl j _ (hvw j e xs hj).2
 ·obtain ⟨b0, h0⟩ := hlive j b hj; exact hM.lo j b0 h0
 ·obtain ⟨b0, h0⟩ := hlive i b hi
  obtain ⟨b1, h1⟩ := hlive j b' hj
  exact hM.dj i j b0 b1 h0 h1
 ·obtain ⟨cs0, h1, _⟩ := hbox j cs hl; exact hM.an j cs0 hj h1
 ·rcases hrow j d e xs hl with ⟨_, h1⟩ | ⟨_, _, h1, _⟩
  ·exact hM.ar j d e xs hj h1
  ·omega
theorem vwK_sound {np c : Nat} (hz : I0.M ≤ np) {S : St E} {k : St E → Option R} (hM : Mr E w0 Φ I0 G S.m S.n w) (hT : Tr E G S.ts S.m S.n a w) (h : vwK np c S k = some r) :
  ∃ S' G', k S' = some r ∧ Mr E w0 Φ I0 G' S'.m S'.n w ∧ Tr E G' S'.ts S'.m S'.n a w := by
 unfold vwK at h
 split at h
 ·exact ⟨S, G, h, hM, hT⟩
 ·rw [forceT_eq, forceM_eq] at h
  obtain ⟨h1, h2⟩ := unview_sound hz hM hT
  exact ⟨_, G, h, h1, h2⟩
 ·rw [forceT_eq, forceM_eq] at h
  obtain ⟨G', h1, h2⟩ := view_sound hM hT
  exact ⟨_, G', h, h1, h2⟩
theorem wp_loop_rounds {c : Code} (J : Nat → Act → World → Prop) (round : ∀ k a w, J k a w → c.wp P (Exit.then (fun a' w' => ∃ k', k' < k ∧ J k' a' w') Q) a w) {k : Nat} {a : Act} {w : World} (h₀ : J k a w) : (Code.loop c).wp P Q a w := by
 intro b kk cs
 have key : ∀ n a w, J n a w → ∃ e a' w', Q e a' w' ∧ Arrives P (lone (b.at a (.code c :: .inLoop c :: kk)) cs w) b kk cs e a' w' := by
  intro n
  induction n using Nat.strongRecOn with
  | _ n ih =>
   intro a w hI
   obtain ⟨e, a₁, w₁, hq, harr⟩ := round n a w hI b (.inLoop c :: kk) cs
   cases e with
   | normal =>
    obtain ⟨n', hlt, hI₁⟩ := hq
    obtain ⟨e₂, a₂, w₂, hq₂, harr₂⟩ := ih n' hlt a₁ w₁ hI₁
    exact ⟨e₂, a₂, w₂, hq₂, .of_steps (Steps.trans harr (.one step_inLoop)) harr₂⟩
   | exit id => exact ⟨_, a₁, w₁, hq, .pass (x := .inLoop c) rfl (fun _ _ => .inl (by simp)) harr⟩
   | goto l => exact ⟨_, a₁, w₁, hq, .pass (x := .inLoop c) rfl (fun _ _ => .inl (by simp)) harr⟩
   | ret => exact ⟨_, a₁, w₁, hq, .pass (x := .inLoop c) rfl (fun _ _ => .inl (by simp)) harr⟩
   | panic ch => exact ⟨_, a₁, w₁, hq, .pass (x := .inLoop c) rfl (fun _ _ => .inl (by simp)) harr⟩
   | outgrown => exact ⟨_, a₁, w₁, hq, .pass (x := .inLoop c) rfl (fun _ _ => .inl (by simp)) harr⟩
 obtain ⟨e, a', w', hq, harr⟩ := key k a w h₀
 exact ⟨e, a', w', hq, .of_steps (.one step_loop) harr⟩
theorem evR_sound [GlobOK E w0 Φ I0] (hE : EnvOK E P) {X : Ctx E} (hC : CSound E P X.C) {id : Nat} {ops : Array Oper} {draw : Bool} {S : St E} {K : Exit → St E → Option R} {G : Gh} {a : Act} {w : World} {Q : Exit → Act → World → Prop} (h : evR X id ops draw S K = some r) (hM : Mr E w0 Φ I0 G S.m S.n w) (hT : Tr E G S.ts S.m S.n a w)
  (hK : ∀ e S' G' a' w', K e S' = some r → Mr E w0 Φ I0 G' S'.m S'.n w' → Tr E G' S'.ts S'.m S'.n a' w' → Q e a' w') : (Code.region id ops draw).wp P Q a w := by
 unfold evR at h
 split at h
 ·rename_i hd
  subst hd
  split at h
  ·rename_i hB
   split at h
   ·exact region_draw hE hC hB h hM hT fun ts G a w hk hm ht => by
     rw [forceN_eq] at hk
     exact hK .normal ⟨ts, S.m, _⟩ G a w hk hm ht
   ·exact region_drawE hE hC hB (K := fun ts m n => K .normal ⟨ts, m, n⟩) h hM hT fun ts m n G a w hk hm ht => hK .normal ⟨ts, m, n⟩ G a w hk hm ht
  ·cases h
 ·rename_i hd
  have hd' : draw = false := by simpa using hd
  subst hd'
  refine wp_region ?_
  have := evOps_sound (Q := Q) hE hC (ops := ops) (K := fun ts m n => K .normal ⟨ts, m, n⟩) (fun ts m n G a w hk hm ht => hK .normal ⟨ts, m, n⟩ G a w hk hm ht) ops.toList 0 S.n S.ts S.m none G a w rfl h hM hT (fun p hp => by cases hp)
  rwa [← List.range_eq_range', Array.length_toList] at this
theorem evC_sound [GlobOK E w0 Φ I0] (hE : EnvOK E P) {X : Ctx E} (hC : CSound E P X.C) (hz : I0.M ≤ X.np) : ∀ (c : Code), HOK X c → ∀ {S : St E} {K : Exit → St E → Option R} {G : Gh} {a : Act} {w : World} {Q : Exit → Act → World → Prop}, evC X c S K = some r → Mr E w0 Φ I0 G S.m S.n w → Tr E G S.ts S.m S.n a w →
  (∀ e S' G' a' w', K e S' = some r → Mr E w0 Φ I0 G' S'.m S'.n w' → Tr E G' S'.ts S'.m S'.n a' w' → Q e a' w') → c.wp P Q a w := by
 intro c
 induction c with
 | skip => intro _ S K G a w Q h hM hT hK; exact wp_skip (hK _ _ _ _ _ h hM hT)
 | region id ops draw =>
  intro _ S K G a w Q h hM hT hK
  simp only [evC] at h
  obtain ⟨S1, G1, h1, hM1, hT1⟩ := vwK_sound hz hM hT h
  exact evR_sound hE hC h1 hM1 hT1 fun e S' G' a' w' hk hm ht => by
   obtain ⟨S2, G2, g1, g2, g3⟩ := vwK_sound hz hm ht hk
   exact hK e S2 G2 a' w' g1 g2 g3
 | seq x y ihx ihy =>
  intro hH S K G a w Q h hM hT hK
  simp only [evC] at h
  split at h
  ·rename_i hd hj
   obtain ⟨S1, h, hM, hT⟩ := headS_sound hM hT h
   obtain ⟨v, h1, h2⟩ := Option.bind_eq_some_iff.1 h
   have h3 := hH.q (x, y) (by simp [seqsOf, hj]) hd hj S1 v h1 K r h2
   unfold evQ at h3
   have out : ∀ (e : Exit) (S2 : St E) (G2 : Gh) (a2 : Act) (w2 : World), canonX X.np (X.keepX (seqNo x y)) S1.ts S1.m (S1.n + X.span (seqNo x y)) S2 (K e) = some r → Mr E w0 Φ I0 G2 S2.m S2.n w2 → Tr E G2 S2.ts S2.m S2.n a2 w2 → Q e a2 w2 := fun e S2 G2 a2 w2 hk hm ht => by
    obtain ⟨S3, G3, g1, g2, g3⟩ := canonX_sound hz hm ht hk
    exact hK e S3 G3 a2 w2 g1 g2 g3
   refine wp_seq (ihx ⟨fun a ha => hH.l a (by simp [loopsOf, ha]), fun q hq => hH.j q (by simp [condsOf, hq]), fun q hq => hH.q q (by simp [seqsOf, hq])⟩ h3 hM hT fun e S' G' a' w' hk hm ht => ?_)
   cases e with
   | normal => exact ihy ⟨fun a ha => hH.l a (by simp [loopsOf, ha]), fun q hq => hH.j q (by simp [condsOf, hq]), fun q hq => hH.q q (by simp [seqsOf, hq])⟩ hk hm ht fun e S2 G2 a2 w2 hk2 hm2 ht2 => out e S2 G2 a2 w2 hk2 hm2 ht2
   | _ => exact out _ S' G' a' w' hk hm ht
  refine wp_seq (ihx ⟨fun a ha => hH.l a (by simp [loopsOf, ha]), fun q hq => hH.j q (by simp [condsOf, hq]), fun q hq => hH.q q (by simp [seqsOf, hq])⟩ h hM hT fun e S' G' a' w' hk hm ht => ?_)
  cases e with
  | normal => exact ihy ⟨fun a ha => hH.l a (by simp [loopsOf, ha]), fun q hq => hH.j q (by simp [condsOf, hq]), fun q hq => hH.q q (by simp [seqsOf, hq])⟩ hk hm ht hK
  | _ => exact hK _ S' G' a' w' hk hm ht
 | cond x y z ihy ihz =>
  intro hH S K G a w Q h hM hT hK
  simp only [evC] at h
  have ihy := fun {S} {K} {G} {a} {w} {Q} => @ihy ⟨fun a ha => hH.l a (by simp [loopsOf, ha]), fun q hq => hH.j q (by simp [condsOf, hq]), fun q hq => hH.q q (by simp [seqsOf, hq])⟩ S K G a w Q
  have ihz := fun {S} {K} {G} {a} {w} {Q} => @ihz ⟨fun a ha => hH.l a (by simp [loopsOf, ha]), fun q hq => hH.j q (by simp [condsOf, hq]), fun q hq => hH.q q (by simp [seqsOf, hq])⟩ S K G a w Q
  split at h
  ·rename_i hd hj
   obtain ⟨S0, G0, hp, hM0, hT0⟩ := prepS_sound _ hM hT
   rw [hp] at h
   obtain ⟨S1, h, hM, hT⟩ := headS_sound hM0 hT0 h
   obtain ⟨v, h1, h2⟩ := Option.bind_eq_some_iff.1 h
   have h3 := hH.j (x, y, z) (by simp [condsOf, hj]) hd hj S1 v h1 K r h2
   unfold evJ at h3
   have hx := Aeval_rel hT x
   simp only at h3
   split at h3
   ·rename_i q hq
    rw [hq] at hx
    have hx' : a.eval x = .bool q := hx.1
    split at h3
    ·rename_i hqt; subst hqt
     exact wp_cond_true hx' (ihy h3 hM hT fun e S' G' a' w' hk hm ht => by
      obtain ⟨S2, G2, g1, g2, g3⟩ := canonX_sound hz hm ht hk
      exact hK e S2 G2 a' w' g1 g2 g3)
    ·rename_i hqt
     have hqf : q = false := by simpa using hqt
     subst hqf
     exact wp_cond_false hx' (ihz h3 hM hT fun e S' G' a' w' hk hm ht => by
      obtain ⟨S2, G2, g1, g2, g3⟩ := canonX_sound hz hm ht hk
      exact hK e S2 G2 a' w' g1 g2 g3)
   ·cases h3
  ·have hx := Aeval_rel hT x
   split at h
   ·rename_i q hq
    rw [hq] at hx
    have hx' : a.eval x = .bool q := hx.1
    split at h
    ·rename_i hqt; subst hqt; exact wp_cond_true hx' (ihy h hM hT hK)
    ·rename_i hqt
     have hqf : q = false := by simpa using hqt
     subst hqf
     exact wp_cond_false hx' (ihz h hM hT hK)
   ·cases h
 | block id x ih =>
  intro hH S K G a w Q h hM hT hK
  simp only [evC] at h
  refine wp_block (ih ⟨fun a ha => hH.l a (by simpa [loopsOf] using ha), fun q hq => hH.j q (by simpa [condsOf] using hq), fun q hq => hH.q q (by simpa [seqsOf] using hq)⟩ h hM hT fun e S' G' a' w' hk hm ht => ?_)
  cases e with
  | exit i =>
   simp only at hk
   simp only [Exit.inBlock]
   split at hk
   ·rename_i e; rw [if_pos e]; exact hK _ S' G' a' w' hk hm ht
   ·rename_i e; rw [if_neg e]; exact hK _ S' G' a' w' hk hm ht
  | _ => exact hK _ S' G' a' w' hk hm ht
 | loop x ih =>
  intro hH S K G a w Q h hM hT hK
  have ih := fun {S} {K} {G} {a} {w} {Q} => @ih ⟨fun a ha => hH.l a (by simp [loopsOf, ha]), fun q hq => hH.j q (by simpa [condsOf] using hq), fun q hq => hH.q q (by simpa [seqsOf] using hq)⟩ S K G a w Q
  simp only [evC] at h
  split at h
  ·rename_i hd hj
   obtain ⟨S0, G0, hp, hM0, hT0⟩ := prepS_sound _ hM hT
   rw [hp] at h
   obtain ⟨S1, h, hM1, hT1⟩ := headS_sound hM0 hT0 h
   obtain ⟨v, h1, h2⟩ := Option.bind_eq_some_iff.1 h
   obtain ⟨k, h3⟩ := hH.l x (by simp [loopsOf]) hd hj S1 v h1 K r h2
   let J : Nat → Act → World → Prop := fun k a w => ∃ S' G', evL X x S1 K k S' = some r ∧ Mr E w0 Φ I0 G' S'.m S'.n w ∧ Tr E G' S'.ts S'.m S'.n a w
   refine wp_loop_rounds J (fun k a w hJ => ?_) (k := k) ⟨S1, G0, h3, hM1, hT1⟩
   obtain ⟨S', G', h1, h2, h3⟩ := hJ
   cases k with
   | zero => simp [evL, iter] at h1
   | succ k =>
    simp only [evL, iter, iterStep] at h1
    refine ih h1 h2 h3 fun e S2 G2 a2 w2 hk hm ht => ?_
    have out : canonX X.np (X.keepX (codeNo x)) S1.ts S1.m (S1.n + X.span (codeNo x)) S2 (K e) = some r → Q e a2 w2 := fun hk => by
     obtain ⟨S3, G3, g1, g2, g3⟩ := canonX_sound hz hm ht hk
     exact hK e S3 G3 a2 w2 g1 g2 g3
    cases e with
    | normal =>
     unfold backS at hk
     obtain ⟨S4, G4, hp4, hm4, ht4⟩ := prepS_sound (X.prepB (codeNo x)) hm ht
     rw [hp4] at hk
     obtain ⟨S3, G3, g1, g2, g3⟩ := canon_sound hz hM1.nn hm4 ht4 hk
     exact ⟨k, Nat.lt_succ_self k, S3, G3, g1, g2, g3⟩
    | _ => exact out hk
  ·cases h
 | exit id => intro _ S K G a w Q h hM hT hK; exact wp_exit (hK _ _ _ _ _ h hM hT)
 | ret => intro _ S K G a w Q h hM hT hK; exact wp_ret (hK _ _ _ _ _ h hM hT)
 | _ => intro _ S K G a w Q h; simp only [evC] at h; cases h
end
end Go.B
