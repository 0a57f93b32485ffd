/- What the reckoner's plain operations say of the program's: a call. -/
import Derived.Test.YtepfpdaehcmblaaBRet
namespace Go.B
open Go Go.RowKit
set_option linter.unusedVariables false
set_option linter.unusedSimpArgs false
variable {E : Env} {P : Program}
section
variable {R : Type} {w w0 w1 w' : World} {m1 m2 : Mem E} {K : AV E → Mem E → Option R} {r : R} {Φ Ψ : Nat → Prop} {I0 : Ent} {ts : List (AV E)} {a : Act} {H : Nat → Prop}
theorem getR1s_sound : ∀ (rs : List (R1 E)) {G : Gh} {m : Mem E} {n : Nat} (val : Nat → Value) {I' : Nat → Prop} {fp : Nat → Nat → Prop}, Mr E w0 Φ I0 G m n w → (∀ (j : Nat) (x : R1 E), rs[j]? = some x → R1r E w I' (fp j) x (val j)) →
  (freshL rs = true ∨ ∀ k, I' k → G.I k) → (∀ j k, fp j k → Free E w0 Φ G m w k) → (∀ j j' k, fp j k → fp j' k → j = j') → ∀ {k : List (A1 E) → Nat → Mp E}, (getR1s n rs k).run m K = some r →
  ∃ (as : List (A1 E)) (n' : Nat) (m' : Mem E) (G' : Gh), (k as n').run m' K = some r ∧ n ≤ n' ∧ Mr E w0 Φ I0 G' m' n' w ∧ Mle G m n G' m' ∧ (∀ k, G.I k → G'.I k) ∧ as.length = rs.length ∧ (∀ (j : Nat) (b : A1 E), as[j]? = some b → A1r E G' w m' n' b (val j) ∧ (val j).oneCell' = true) ∧
   ∀ k, Free E w0 Φ G m w k → (∀ j, ¬ fp j k) → Free E w0 Φ G' m' w k
 | [], G, m, n, val, I', fp, hM, hr, hI, hfp, hd, k, h => ⟨[], n, m, G, h, Nat.le_refl _, hM, Mle.refl _ _ _, fun _ h => h, rfl, fun j b hj => by simp at hj, fun k hk _ => hk⟩
 | x :: rs, G, m, n, val, I', fp, hM, hr, hI, hfp, hd, k, h => by
  simp only [getR1s] at h
  have hI1 : freshR x = true ∨ ∀ k, I' k → G.I k := hI.imp (fun h => by simp [freshL] at h; exact h.1) _root_.id
  have hI2 : freshL rs = true ∨ ∀ k, I' k → G.I k := hI.imp (fun h => by simp [freshL] at h; exact h.2) _root_.id
  obtain ⟨b, n1, m1, G1, h, g1, g2, g3, g4, g5, g6, g7⟩ := getR1_sound hM (hr 0 x rfl) hI1 (hfp 0) h
  obtain ⟨as, n', m', G', h, f1, f2, f3, f4, f5, f6, f7⟩ := getR1s_sound rs (fun j => val (j + 1)) (fp := fun j => fp (j + 1)) g2 (fun j y hj => hr (j + 1) y (by simpa using hj)) (hI2.imp _root_.id fun h k hk => g4 k (h k hk))
   (fun j k hk => g7 k (hfp (j + 1) k hk) fun h0 => by have := hd 0 (j + 1) k h0 hk; omega) (fun j j' k hk hk' => by have := hd (j + 1) (j' + 1) k hk hk'; omega) h
  refine ⟨b :: as, n', m', G', h, Nat.le_trans g1 f1, f2, g3.trans (f3.less g1), fun k hk => f4 k (g4 k hk), by simp [f5], fun j c hj => ?_, fun k hk hn => f7 k (g7 k hk (hn 0)) fun j => hn (j + 1)⟩
  cases j with
  | zero => simp at hj; subst hj; exact ⟨g5.keep f3 f1 fun k hk => ⟨f4 k hk, rfl⟩, g6⟩
  | succ j => exact f6 j c (by simpa using hj)
theorem getR2_sound {G : Gh} {m : Mem E} {n : Nat} (hM : Mr E w0 Φ I0 G m n w) {I' : Nat → Prop} {fp : Nat → Nat → Prop} {x : R2 E} {u : Value} (hr : R2r E w I' fp x u) (hI : freshR2 x = true ∨ ∀ k, I' k → G.I k) (hfp : ∀ j k, fp j k → Free E w0 Φ G m w k)
  (hd : ∀ j j' k, fp j k → fp j' k → j = j') {k : A2 E → Nat → Mp E} (h : (getR2 n x k).run m K = some r) :
  ∃ (b : A2 E) (n' : Nat) (m' : Mem E) (G' : Gh), (k b n').run m' K = some r ∧ n ≤ n' ∧ Mr E w0 Φ I0 G' m' n' w ∧ Mle G m n G' m' ∧ (∀ k, G.I k → G'.I k) ∧ A2r E G' w m' n' b u ∧ ∀ k, Free E w0 Φ G m w k → (∀ j, ¬ fp j k) → Free E w0 Φ G' m' w k := by
 cases x with
 | c x =>
  simp only [getR2] at h
  obtain ⟨b, n1, m1, G1, h, g1, g2, g3, g4, g5, g6, g7⟩ := getR1_sound hM hr hI (hfp 0) h
  exact ⟨_, n1, m1, G1, h, g1, g2, g3, g4, g5, fun k hk hn => g7 k hk (hn 0)⟩
 | g rs =>
  simp only [getR2] at h
  obtain ⟨arr, rfl, h1, h2⟩ := hr
  obtain ⟨as, n', m', G', h, f1, f2, f3, f4, f5, f6, f7⟩ := getR1s_sound rs (fun j => arr.getD j undef) hM h2 hI hfp hd h
  exact ⟨_, n', m', G', h, f1, f2, f3, f4, ⟨arr, rfl, by rw [h1, f5], fun j b hj => f6 j b hj⟩, f7⟩
theorem getR2s_sound : ∀ (rs : List (R2 E)) {G : Gh} {m : Mem E} {n : Nat} (val : Nat → Value) {I' : Nat → Prop} {fp : Nat → Nat → Nat → Prop}, Mr E w0 Φ I0 G m n w → (∀ (j : Nat) (x : R2 E), rs[j]? = some x → R2r E w I' (fp j) x (val j)) →
  (freshR2s rs = true ∨ ∀ k, I' k → G.I k) → (∀ i j k, fp i j k → Free E w0 Φ G m w k) → (∀ i j i' j' k, fp i j k → fp i' j' k → i = i' ∧ j = j') → ∀ {k : List (A2 E) → Nat → Mp E}, (getR2s n rs k).run m K = some r →
  ∃ (as : List (A2 E)) (n' : Nat) (m' : Mem E) (G' : Gh), (k as n').run m' K = some r ∧ n ≤ n' ∧ Mr E w0 Φ I0 G' m' n' w ∧ Mle G m n G' m' ∧ (∀ k, G.I k → G'.I k) ∧ as.length = rs.length ∧ (∀ (j : Nat) (b : A2 E), as[j]? = some b → A2r E G' w m' n' b (val j)) ∧
   ∀ k, Free E w0 Φ G m w k → (∀ i j, ¬ fp i j k) → Free E w0 Φ G' m' w k
 | [], G, m, n, val, I', fp, hM, hr, hI, hfp, hd, k, h => ⟨[], n, m, G, h, Nat.le_refl _, hM, Mle.refl _ _ _, fun _ h => h, rfl, fun j b hj => by simp at hj, fun k hk _ => hk⟩
 | x :: rs, G, m, n, val, I', fp, hM, hr, hI, hfp, hd, k, h => by
  simp only [getR2s] at h
  have hI1 : freshR2 x = true ∨ ∀ k, I' k → G.I k := hI.imp (fun h => by simp [freshR2s] at h; exact h.1) _root_.id
  have hI2 : freshR2s rs = true ∨ ∀ k, I' k → G.I k := hI.imp (fun h => by simp [freshR2s] at h; exact h.2) _root_.id
  obtain ⟨b, n1, m1, G1, h, g1, g2, g3, g4, g5, g7⟩ := getR2_sound hM (hr 0 x rfl) hI1 (hfp 0) (fun j j' k hk hk' => (hd 0 j 0 j' k hk hk').2) h
  obtain ⟨as, n', m', G', h, f1, f2, f3, f4, f5, f6, f7⟩ := getR2s_sound rs (fun j => val (j + 1)) (fp := fun j => fp (j + 1)) g2 (fun j y hj => hr (j + 1) y (by simpa using hj)) (hI2.imp _root_.id fun h k hk => g4 k (h k hk))
   (fun i j k hk => g7 k (hfp (i + 1) j k hk) fun j' h0 => by have := (hd 0 j' (i + 1) j k h0 hk).1; omega) (fun i j i' j' k hk hk' => by have := hd (i + 1) j (i' + 1) j' k hk hk'; exact ⟨by omega, this.2⟩) h
  refine ⟨b :: as, n', m', G', h, Nat.le_trans g1 f1, f2, g3.trans (f3.less g1), fun k hk => f4 k (g4 k hk), by simp [f5], fun j c hj => ?_, fun k hk hn => f7 k (g7 k hk (hn 0)) fun i j => hn (i + 1) j⟩
  cases j with
  | zero => simp at hj; subst hj; exact g5.keep f3 f1 fun k hk => ⟨f4 k hk, rfl⟩
  | succ j => exact f6 j c (by simpa using hj)
theorem getRV_sound {G : Gh} {m : Mem E} {n : Nat} (hM : Mr E w0 Φ I0 G m n w) {I' : Nat → Prop} {fp : Nat → Nat → Nat → Prop} {x : RV E} {u : Value} (hr : RVr E w I' fp x u) (hI : freshRV x = true ∨ ∀ k, I' k → G.I k) (hfp : ∀ i j k, fp i j k → Free E w0 Φ G m w k)
  (hd : ∀ i j i' j' k, fp i j k → fp i' j' k → i = i' ∧ j = j') {k : AV E → Mp E} (h : (getRV n x k).run m K = some r) :
  ∃ (b : AV E) (m' : Mem E) (G' : Gh), (k b).run m' K = some r ∧ Mr E w0 Φ I0 G' m' (n + wide) w ∧ Mle G m n G' m' ∧ (∀ k, G.I k → G'.I k) ∧ AVr E G' w m' (n + wide) b u := by
 cases x with
 | v x =>
  simp only [getRV] at h
  obtain ⟨b, n1, m1, G1, h, g1, g2, g3, g4, g5, _⟩ := getR2_sound hM hr hI (hfp 0) (fun j j' k hk hk' => (hd 0 j 0 j' k hk hk').2) h
  obtain ⟨hn, h⟩ := run_need h
  exact ⟨_, m1, G1, h, g2.to hn, g3, g4, A2r.keep (a := b) g5 (Mle.refl _ _ _) hn fun k hk => ⟨hk, rfl⟩⟩
 | tup rs =>
  simp only [getRV] at h
  obtain ⟨arr, rfl, h1, h2⟩ := hr
  obtain ⟨as, n', m', G', h, f1, f2, f3, f4, f5, f6, _⟩ := getR2s_sound rs (fun j => arr.getD j undef) hM h2 hI hfp hd h
  obtain ⟨hn, h⟩ := run_need h
  exact ⟨_, m', G', h, f2.to hn, f3, f4, arr, rfl, by rw [h1, f5], fun j b hj => (f6 j b hj).keep (Mle.refl _ _ _) hn fun k hk => ⟨hk, rfl⟩⟩
def delAll : List Nat → Mem E → Mem E
 | [], m => m
 | i :: is, m => delAll is (delm m i)
theorem look_delAll : ∀ (s : List Nat) (m : Mem E) (j : Nat), look (delAll s m) j = if j ∈ s then none else look m j
 | [], m, j => by simp [delAll]
 | i :: is, m, j => by
  simp only [delAll, look_delAll is, look_del]
  by_cases h1 : j ∈ is
  ·simp [h1]
  ·by_cases h2 : i = j
   ·simp [h2]
   ·simp [h1, h2, Ne.symm h2]
theorem run_dels : ∀ {s : List Nat} {m : Mem E} {k : Mp E}, (dels s k).run m K = some r → k.run (delAll s m) K = some r
 | [], m, k, h => h
 | i :: is, m, k, h => by
  simp only [dels] at h
  have h' := run_del h
  exact run_dels (s := is) h'
theorem Sub.delAll (s : List Nat) (m : Mem E) : Sub m (delAll s m) := fun j b hj => by
 rw [look_delAll] at hj; split at hj; cases hj; exact hj
theorem Mr.freezeAll {G : Gh} {m : Mem E} {n : Nat} (h : Mr E w0 Φ I0 G m n w) (s : List Nat) : Mr E w0 Φ I0 { G with I := SeenI G m s } (delAll s m) n w := by
 have hs := Sub.delAll s m
 have hi : ∀ k, G.I k → SeenI G m s k ∧ w.heap[k]? = w.heap[k]? := fun k hk => ⟨.inl hk, rfl⟩
 have hm : Mle G m n { G with I := SeenI G m s } (delAll s m) := Mle.of rfl rfl rfl hs
 refine ⟨h.fr, fun j b hj => h.lt j b (hs j b hj), fun j b hj => ?_, fun j b hj k hk => ?_, fun i j b b' hb hb' => h.dj i j b b' (hs _ _ hb) (hs _ _ hb'), fun k hk => hk.elim (h.il k) fun ⟨id, _, ⟨b, hb⟩, hk⟩ => (h.lo id b hb k hk).2.1, fun k hk => hk.elim (h.ii k) fun ⟨id, _, ⟨b, hb⟩, hk⟩ => .inr (h.lo id b hb k hk).1, fun k hk => .inl (h.ip k hk), h.nn, fun j cs hj hc => h.an j cs hj (hs _ _ hc), fun j d e xs hj hc => h.ar j d e xs hj (hs _ _ hc)⟩
 ·have hb' := h.bl j b (hs j b hj)
  cases b with
  | box cs =>
   obtain ⟨⟨arr, ty, h1, h2⟩, h3⟩ := hb'
   exact ⟨⟨arr, ty, h1, h2.keep hm (Nat.le_refl _) hi⟩, h3⟩
  | row d e xs => exact Top.keep hb' hi fun k hk => ⟨hk, rfl⟩
  | rowV e xs => exact ⟨Top.keep hb'.1 hi fun k hk => ⟨hk, rfl⟩, hb'.2⟩
 ·obtain ⟨h1, h2, h3⟩ := h.lo j b (hs j b hj) k hk
  refine ⟨h1, h2, fun hI => hI.elim h3 fun ⟨id, hid, ⟨b', hb'⟩, hk'⟩ => ?_⟩
  have hne : j ≠ id := fun e => by subst e; rw [look_delAll, if_pos hid] at hj; cases hj
  exact h.dj j id b b' (hs j b hj) hb' hne k hk hk'
theorem MrH.freezeZ {G : Gh} {m : Mem E} {n : Nat} (h : MrH E w0 Φ I0 G m n w H) {Z : Nat → Prop} (hZ : ∀ k, Z k → (G.I k ∨ w0.heap.size ≤ k) ∧ k < w.heap.size ∧ ∀ j b, look m j = some b → ¬ G.fp j k) : MrH E w0 Φ I0 { G with I := fun k => G.I k ∨ Z k } m n w H := by
 have hi : ∀ k, G.I k → (G.I k ∨ Z k) ∧ w.heap[k]? = w.heap[k]? := fun k hk => ⟨.inl hk, rfl⟩
 refine ⟨h.fr, h.lt, fun j c hc hj => ?_, h.bx, fun j c hc k hk => ?_, h.dj, fun k hk => hk.elim (h.il k) fun hk => (hZ k hk).2.1, fun k hk => hk.elim (h.ii k) fun hk => (hZ k hk).1.elim (h.ii k) fun h => .inr (.inl h), fun k hk => .inl (h.ip k hk), h.nn, h.an, h.ar⟩
 ·have hb' := h.bl j c hc hj
  cases c with
  | box cs =>
   obtain ⟨⟨arr, ty, h1, h2⟩, h3⟩ := hb'
   exact ⟨⟨arr, ty, h1, h2.keep (Mle.refl _ _ _) (Nat.le_refl _) hi⟩, h3⟩
  | row d e xs => exact Top.keep hb' hi fun k hk => ⟨hk, rfl⟩
  | rowV e xs => exact ⟨Top.keep hb'.1 hi fun k hk => ⟨hk, rfl⟩, hb'.2⟩
 ·have := h.lo j c hc k hk
  exact ⟨this.1, this.2.1, fun hI => hI.elim this.2.2 fun hk' => (hZ k hk').2.2 j c hc hk⟩
theorem seenK_run {R : Type} {m : Mem E} {K : AV E → Mem E → Option R} {r : R} : ∀ (as : List (AV E)) (k : List Nat → Mp E), (seenK as k).run m K = some r → (k (seenVs m as)).run m K = some r
 | [], k, h => h
 | .tup vs :: as, k, h => by
  simp only [seenVs, seenV, List.nil_append]
  exact seenK_run as k h
 | .v (.g cs) :: as, k, h => by
  simp only [seenVs, seenV]
  exact seenK_run as (fun is => k (seenL cs ++ is)) h
 | .v (.c b) :: as, k, h => by
  by_cases hb : ∃ id, b = .bp id 0
  ·obtain ⟨id, rfl⟩ := hb
   simp only [seenK] at h
   obtain ⟨b, hb, h⟩ := run_get h
   simp only [seenVs, seenV, hb]
   cases b with
   | box cs => exact seenK_run as (fun is => k (seenL cs ++ is)) h
   | row d e xs => exact seenK_run as k h
   | rowV e xs => exact seenK_run as k h
  ·have e1 : seenK (.v (.c b) :: as) k = seenK as fun is => k (seenA b ++ is) := by
    cases b with
    | bp id off => cases off with
     | zero => exact absurd ⟨id, rfl⟩ hb
     | succ off => rfl
    | _ => rfl
   have e2 : seenVs m (.v (.c b) :: as) = seenA b ++ seenVs m as := by
    cases b with
    | bp id off => cases off with
     | zero => exact absurd ⟨id, rfl⟩ hb
     | succ off => rfl
    | _ => rfl
   rw [e1] at h
   rw [e2]
   exact seenK_run as (fun is => k (seenA b ++ is)) h
theorem ptrIds_one : ∀ {as : List (AV E)} {l l' id id' : Nat}, (ptrIds as).length ≤ 1 → as[l]? = some (.v (.c (.bp id 0))) → as[l']? = some (.v (.c (.bp id' 0))) → l = l' := by
 have some_len : ∀ {as : List (AV E)} {l id : Nat}, as[l]? = some (.v (.c (.bp id 0))) → 0 < (ptrIds as).length := by
  intro as
  induction as with
  | nil => intro l id h; simp at h
  | cons x as ih =>
   intro l id h
   cases l with
   | zero => simp at h; subst h; simp [ptrIds]
   | succ l =>
    have := ih (by simpa using h)
    unfold ptrIds
    split
    ·rename_i h1; cases h1
    ·simp
    ·rename_i h1; cases h1; exact this
 intro as
 induction as with
 | nil => intro l l' id id' _ h; simp at h
 | cons x as ih =>
  intro l l' id id' hn h h'
  cases l with
  | zero =>
   cases l' with
   | zero => rfl
   | succ l' =>
    simp at h; subst h
    have := some_len (as := as) (l := l') (id := id') (by simpa using h')
    simp [ptrIds] at hn
    rw [hn] at this; simp at this
  | succ l =>
   cases l' with
   | zero =>
    simp at h'; subst h'
    have := some_len (as := as) (l := l) (id := id) (by simpa using h)
    simp [ptrIds] at hn
    rw [hn] at this; simp at this
   | succ l' =>
    have hn' : (ptrIds as).length ≤ 1 := by
     unfold ptrIds at hn
     split at hn
     ·rename_i h1; cases h1
     ·rename_i h1; cases h1; simp at hn; rw [hn]; simp
     ·rename_i h1; cases h1; exact hn
    have h1 : as[l]? = some (.v (.c (.bp id 0))) := by simpa using h
    have h2 : as[l']? = some (.v (.c (.bp id' 0))) := by simpa using h'
    rw [ih hn' h1 h2]
theorem callA_sound [GlobOK E w0 Φ I0] (hE : EnvOK E P) {f : FuncId} {en : Entry E} (hC : SoundC E P f en.F) {G : Gh} {m : Mem E} {n : Nat} (hM : Mr E w0 Φ I0 G m n w) (hT : Tr E G ts m n a w) {as : List (AV E)} {vals : Array Value} (hlen : vals.size = as.length)
  (has : ∀ (j : Nat) (b : AV E), as[j]? = some b → AVr E G w m n b (vals.getD j undef)) (h : (callA n en as).run m K = some r) {fin : Value → World → Prop}
  (hfin : ∀ v m' G' u w', K v m' = some r → Mr E w0 Φ I0 G' m' (n + wide) w' → Tr E G' ts m' (n + wide) a w' → AVr E G' w' m' (n + wide) v u → fin u w') :
  Calls P f vals w fun e w' => ∃ u, e = .returned u ∧ fin u w' := by
 unfold callA at h
 obtain ⟨ps, h, hpl, hps, hrows, hptr⟩ := handIns_sound hM h
 obtain ⟨hone, h⟩ := run_need h
 obtain ⟨ans, hans, h⟩ := run_call h
 obtain ⟨res, hw, hC⟩ := hC ps ans hans
 rw [hw] at h
 let S := seenVs m as
 let Ic : Nat → Prop := SeenI G m S
 let Φc : Nat → Prop := fun k => ∃ (l id : Nat) (cs : List (A1 E)), as[l]? = some (.v (.c (.bp id 0))) ∧ look m id = some (.box cs) ∧ k = G.bk id ∧ G.fp id k
 let g : Nat → Nat := fun j => match as[j]? with | some (.v (.c (.bp id 0))) => G.bk id | _ => 0
 have hIc : ∀ k, Ic k → k < w.heap.size ∧ ¬ Φc k := fun k hk => by
  rcases hk with hk | ⟨id, hid, ⟨b, hb⟩, hk⟩
  ·exact ⟨hM.il k hk, fun ⟨l, id, cs, h1, h2, h3, h4⟩ => (hM.lo id _ h2 k h4).2.2 hk⟩
  ·refine ⟨(hM.lo id b hb k hk).2.1, fun ⟨l, id', cs, h1, h2, h3, h4⟩ => ?_⟩
   obtain ⟨d, e, xs, hr⟩ := hrows id hid
   have hne : id ≠ id' := fun e => by subst e; rw [hr] at h2; cases h2
   exact hM.dj id id' b _ hb h2 hne k hk h4
 have arg : ∀ (j : Nat) (p : P2 E), ps[j]? = some p → ∃ b, as[j]? = some b ∧ P2r E G w m Ic b p (vals.getD j undef) := fun j p hj => by
  have hjl : j < as.length := by rw [← hpl]; exact (List.getElem?_eq_some_iff.1 hj).1
  exact ⟨_, List.getElem?_eq_getElem hjl, hps j _ p (List.getElem?_eq_getElem hjl) hj _ (has j _ (List.getElem?_eq_getElem hjl))⟩
 have hg : ∀ j id, as[j]? = some (.v (.c (.bp id 0))) → g j = G.bk id := fun j id hj => by simp only [g, hj]
 have hΦc : ∀ k, Φc k → k < w.heap.size ∧ ((∃ (j : Nat) (cs : List (Cell E.T)), ps[j]? = some (.v (.ptr cs)) ∧ k = g j) ∨ ∃ j l e xs, WrAt ps j l e xs ∧ (fun _ _ _ => False : Nat → Nat → Nat → Prop) j l k) := fun k ⟨l, id, cs, h1, h2, h3, h4⟩ => by
  obtain ⟨cs', bs, e1, _⟩ := hptr l id h1
  exact ⟨(hM.lo id _ h2 k h4).2.1, .inl ⟨l, cs', e1, by rw [hg l id h1]; exact h3⟩⟩
 have hA : ArgsR E w Ic Φc g (fun _ _ _ => False) ps vals := by
  refine ⟨by rw [hlen, hpl], fun j c hj => ?_, fun j cs hj => ?_, fun j cs hj => ?_, fun j e x hj => ?_, fun j f xs hj => ?_, fun j j' cs cs' hj hj' hgj => ?_, fun _ _ _ h => h.elim, fun _ _ _ _ _ h => h.elim, fun _ _ _ _ _ h => h⟩
  ·obtain ⟨b, _, h1⟩ := arg j _ hj; exact CellR.of h1
  ·obtain ⟨b, h0, id, bs, rfl, h1, h2, h3, h4⟩ := arg j _ hj
   rw [hg j id h0]
   exact ⟨h2, h3, j, id, bs, h0, h1, rfl, h4⟩
  ·obtain ⟨b, _, arr, h1, h2, h3⟩ := arg j _ hj; exact ⟨arr, h1, h2, fun l c hl => CellR.of (h3 l c hl)⟩
  ·obtain ⟨b, _, h1⟩ := arg j _ hj; exact h1
  ·obtain ⟨b, _, h1⟩ := arg j _ hj; exact h1
  ·obtain ⟨b, h0, id, bs, rfl, _⟩ := arg j _ hj
   obtain ⟨b', h0', id', bs', rfl, _⟩ := arg j' _ hj'
   exact ptrIds_one hone h0 h0'
 refine (hC vals w Ic Φc g _ hIc (hM.glob hE fun k hk => .inl hk) hΦc hA).mono fun e w' he => ?_
 obtain ⟨v, I', fp, F', rfl, hP⟩ := he
 have hPI' : ∀ k, I' k → Ic k ∨ (w.heap.size ≤ k ∧ k < w'.heap.size) := fun k hk => (hP.hI' k hk).imp _root_.id fun h => h.elim _root_.id fun ⟨_, _, h⟩ => h.elim
 have hPf : ∀ i j k, fp i j k → w.heap.size ≤ k ∧ k < w'.heap.size ∧ ¬ I' k := fun i j k hk => by
  obtain ⟨h1, h2, h3⟩ := hP.fps i j k hk
  exact ⟨h1.elim _root_.id fun ⟨_, _, h⟩ => h.elim, h2, h3⟩
 refine ⟨v, rfl, ?_⟩
 have hlen' : ∀ {l : Nat} {u : List (Cell E.T)}, plainU res.upd = true → res.upd[l]? = some u → plainC u = true := by
  intro l u
  generalize res.upd = us
  intro h1 h2
  induction us generalizing l with
  | nil => simp at h2
  | cons x us ih =>
   simp [plainU] at h1
   cases l with
   | zero => simp at h2; subst h2; exact h1.1
   | succ l => exact ih h1.2 (by simpa using h2)
 have hΨ : ∀ k, Φc k → ∃ j, (∃ l : Nat, as[l]? = some (.v (.c (.bp j 0)))) ∧ G.fp j k := fun k ⟨l, id, cs, h1, h2, h3, h4⟩ => ⟨id, ⟨l, h1⟩, h4⟩
 have hMH : ∃ (m1 : Mem E) (I1 : Nat → Prop), (takeBack as res.upd (getRV n res.rv fun v => .ret v)).run m1 K = some r ∧ Sub m m1 ∧ (∀ id cs, look m id = some (.box cs) → look m1 id = some (.box cs)) ∧
   MrH E w0 Φ I0 { G with I := I1 } m1 n w' (fun j => ∃ l : Nat, as[l]? = some (.v (.c (.bp j 0)))) ∧
   (∀ k, G.I k → I1 k) ∧ (∀ k, I1 k → w.heap.size ≤ k → I' k) ∧ ((freshRV res.rv = true ∧ plainU res.upd = true) ∨ ∀ k, I' k → I1 k) := by
  by_cases hfr : (freshRV res.rv && plainU res.upd) = true
  ·rw [if_pos hfr] at h
   simp only [Bool.and_eq_true] at hfr
   exact ⟨m, G.I, h, Sub.refl m, fun _ _ h => h, hM.hole hP.fr (fun j ⟨l, hl⟩ => by obtain ⟨cs, bs, _, h2⟩ := hptr l j hl; exact ⟨bs, h2⟩) hΨ, fun _ h => h, fun k hk hle => absurd (hM.il k hk) (Nat.not_lt.2 hle), .inl hfr⟩
  ·rw [if_neg hfr] at h
   have h0 := seenK_run _ _ h
   have h' := run_dels h0
   have hMf := hM.freezeAll S
   have hbx : ∀ id cs, look m id = some (.box cs) → look (delAll S m) id = some (.box cs) := fun id cs hl => by
    rw [look_delAll, if_neg]
    ·exact hl
    ·intro hid
     obtain ⟨d, e, xs, hr⟩ := hrows id hid
     rw [hl] at hr; cases hr
   have hH := hMf.hole (w' := w') (Ψ := Φc) hP.fr (H := fun j => ∃ l : Nat, as[l]? = some (.v (.c (.bp j 0)))) (fun j ⟨l, hl⟩ => by obtain ⟨cs, bs, _, h2⟩ := hptr l j hl; exact ⟨bs, hbx _ _ h2⟩) hΨ
   have hZ := hH.freezeZ (Z := I') (fun k hk => ⟨(hPI' k hk).elim .inl fun h => .inr (Nat.le_trans hM.fr.size h.1), (hPI' k hk).elim (fun h => Nat.lt_of_lt_of_le (hIc k h).1 hP.fr.size) fun h => h.2, fun j b hj hfp => by
    have h1 := hMf.lo j b hj k hfp
    rcases hPI' k hk with h2 | h2
    ·exact h1.2.2 h2
    ·exact absurd h1.2.1 (Nat.not_lt.2 h2.1)⟩)
   exact ⟨delAll S m, fun k => Ic k ∨ I' k, h', Sub.delAll S m, hbx, hZ, fun k hk => .inl (.inl hk), fun k hk hle => hk.elim (fun h => absurd (hIc k h).1 (Nat.not_lt.2 hle)) fun h => h, .inr fun k hk => .inr hk⟩
 obtain ⟨m1, I1, h1, hsub, hbx, hH, hI1, hI2, hfrs⟩ := hMH
 let G1 : Gh := { G with I := I1 }
 obtain ⟨m2, h2, hM2, hmle2⟩ := takeBack_sound (G := G1) hH (fun j hj => hj) (fun l id u hl hu => by
  obtain ⟨cs, bs, e1, e2⟩ := hptr l id hl
  have hv := hps l _ _ hl e1 _ (has l _ hl)
  obtain ⟨id', bs', e3, _, _, _, e4⟩ := hv
  cases e3
  obtain ⟨arr, ty, q1, q2, q3⟩ := hP.ups l cs u e1 hu
  rw [hg l id hl] at q1
  refine ⟨⟨l, hl⟩, ⟨bs, hbx _ _ e2⟩, e4, arr, ty, q1, q2, fun j c hj => ?_⟩
  rcases hfrs with hf | hf
  ·obtain ⟨v, rfl⟩ := plainC_get (hlen' hf.2 hu) hj
   obtain ⟨p1, p2⟩ := (q3 j _ hj).to_s
   rw [p1]; exact .s p2
  ·exact (q3 j c hj).more hf) (fun l l' id hl hl' => ptrIds_one hone hl hl') h1
 have hlive : ∀ j b, look m2 j = some b → ∃ b', look m j = some b' := fun j b hj => by
  have hjn := hM2.lt j b hj
  cases b with
  | box cs => obtain ⟨_, cs', e1⟩ := (hmle2 j hjn).2.1 cs hj; exact ⟨_, hsub _ _ e1⟩
  | rowV e xs => obtain ⟨_, _, xs', e1, _⟩ := (hmle2 j hjn).2.2 e xs hj; exact ⟨_, hsub _ _ e1⟩
  | row d e xs => obtain ⟨_, d', xs', e1, _⟩ := (hmle2 j hjn).1 d e xs hj; exact ⟨_, hsub _ _ e1⟩
 obtain ⟨b, m3, G3, h3, hM3, hmle3, hI3, hrel⟩ := getRV_sound (G := G1) hM2 hP.rv (hfrs.imp (fun h => h.1) fun h => h) (fun i j k hk => by
  obtain ⟨q1, q2, q3⟩ := hPf i j k hk
  refine ⟨.inl (Nat.le_trans hM.fr.size q1), q2, fun hI => q3 (hI2 k hI q1), fun j' b hj' hfp => ?_⟩
  obtain ⟨b', hb'⟩ := hlive j' b hj'
  exact absurd (hM.lo j' b' hb' k hfp).2.1 (Nat.not_lt.2 q1)) hP.dis h2
 have hm1 : Mle G m n G1 m1 := Mle.of rfl rfl rfl hsub
 refine hfin b m3 G3 v w' h3 hM3 (hT.keep ((hm1.trans hmle2).trans hmle3) (Nat.le_add_right _ _) fun k hk => ⟨hI3 k (hI1 k hk), hP.fr.block k (hM.il k hk) fun hΦ => (hIc k (.inl hk)).2 hΦ⟩) hrel
end
end Go.B
