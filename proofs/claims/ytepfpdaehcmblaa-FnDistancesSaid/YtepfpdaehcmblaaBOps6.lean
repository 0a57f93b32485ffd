/- What the reckoner's plain operations say of the program's: what goes into a row's elements. -/
import Derived.Test.YtepfpdaehcmblaaBOps5
namespace Go.B
open Go Go.RowKit
set_option linter.unusedVariables false
set_option linter.unusedSimpArgs false
variable {E : Env} {P : Program}
def Gone (G : Gh) (m m' : Mem E) (k : Nat) : Prop := ∃ id b, look m id = some b ∧ look m' id = none ∧ G.fp id k
def Sub (m m' : Mem E) : Prop := ∀ id b, look m' id = some b → look m id = some b
theorem Sub.refl (m : Mem E) : Sub m m := fun _ _ h => h
theorem Sub.trans {m m1 m2 : Mem E} (h : Sub m m1) (k : Sub m1 m2) : Sub m m2 := fun id b hb => h id b (k id b hb)
theorem Sub.del (m : Mem E) (id : Nat) : Sub m (delm m id) := fun j b hb => by rw [look_del] at hb; split at hb; cases hb; exact hb
theorem Sub.none {m m' : Mem E} (h : Sub m m') {id : Nat} (hn : look m id = none) : look m' id = none := by
 cases hb : look m' id with
 | none => rfl
 | some b => rw [h id b hb] at hn; cases hn
def Give (E : Env) (w : World) (I F : Nat → Prop) (d : Bool) (u : Value) (c : Cell E.T) : Prop := Rd E w (fun k => I k ∨ F k) u c ∧ (d = true → Ow E w F u c)
section
variable {R : Type} {G : Gh} {w w0 : World} {m m' : Mem E} {n : Nat} {K : AV E → Mem E → Option R} {r : R} {Φ : Nat → Prop} {I0 : Ent} {ts : List (AV E)} {a : Act}
theorem Sub.mle (h : Sub m m') : Mle G m n G m' := Mle.of rfl rfl rfl h
theorem A1l.tail {c : A1 E} {cs : List (A1 E)} {arr : Array Value} (h : A1l E G w m n (c :: cs) arr) : ∃ u us, arr.toList = u :: us ∧ A1r E G w m n c u ∧ u.oneCell' = true ∧ A1l E G w m n cs us.toArray := by
 obtain ⟨u, hu, h1, h2⟩ := h.get (j := 0) (c := c) rfl
 cases ha : arr.toList with
 | nil => rw [ha] at hu; cases hu
 | cons v us =>
  rw [ha] at hu
  have hu' : v = u := by simpa using hu
  subst hu'
  have hs : us.length = cs.length := by have := h.1; rw [← Array.length_toList, ha] at this; simpa using this
  refine ⟨v, us, rfl, h1, h2, .of (by simpa using hs) fun j d hj => ?_⟩
  obtain ⟨u, hu, h3⟩ := h.get (j := j + 1) (c := d) (by simpa using hj)
  rw [ha] at hu
  exact ⟨u, by simpa using hu, h3⟩
theorem toCells_sound : ∀ (ks : List CK) (as : List (A1 E)) (d : Bool) {k : List (Cell E.T) → Bool → Mp E} {m : Mem E} {arr : Array Value}, Mr E w0 Φ I0 G m n w → A1l E G w m n as arr → (toCells ks as d k).run m K = some r →
  ∃ (cs : List (Cell E.T)) (d' : Bool) (m' : Mem E) (F : Nat → Nat → Prop), (k cs d').run m' K = some r ∧ Mr E w0 Φ I0 G m' n w ∧ Sub m m' ∧ cs.length = as.length ∧ (d' = true → d = true) ∧
   (∀ (j : Nat) (u : Value) (c : Cell E.T), arr.toList[j]? = some u → cs[j]? = some c → Give E w G.I (F j) d' u c) ∧
   (∀ (j : Nat) (x : Nat), F j x → Gone G m m' x) ∧ (∀ (j j' x : Nat), F j x → F j' x → j = j') := by
 intro ks
 induction ks with
 | nil =>
  intro as d k m arr hM ha h
  cases as with
  | nil =>
   simp only [toCells] at h
   exact ⟨[], d, m, fun _ _ => False, h, hM, Sub.refl m, rfl, id, fun j u c _ hc => by simp at hc, fun _ _ hf => hf.elim, fun _ _ _ hf => hf.elim⟩
  | cons => simp only [toCells] at h; cases h
 | cons q ks ih =>
  intro as d k m arr hM ha h
  have plain : ∀ (d1 : Bool) (c : Cell E.T) (a : A1 E) (as' : List (A1 E)), as = a :: as' → (d1 = true → d = true) →
    (∀ u, A1r E G w m n a u → Rd E w G.I u c ∧ (d1 = true → Ow E w (fun _ => False) u c)) → (toCells ks as' d1 fun cs d => k (c :: cs) d).run m K = some r →
    ∃ (cs : List (Cell E.T)) (d' : Bool) (m' : Mem E) (F : Nat → Nat → Prop), (k cs d').run m' K = some r ∧ Mr E w0 Φ I0 G m' n w ∧ Sub m m' ∧ cs.length = as.length ∧ (d' = true → d = true) ∧
     (∀ (j : Nat) (u : Value) (c : Cell E.T), arr.toList[j]? = some u → cs[j]? = some c → Give E w G.I (F j) d' u c) ∧
     (∀ (j : Nat) (x : Nat), F j x → Gone G m m' x) ∧ (∀ (j j' x : Nat), F j x → F j' x → j = j') := by
   intro d1 c a as' has hd1 hc hh
   clear h
   subst has
   obtain ⟨u, us, hus, h1, h2, h3⟩ := ha.tail
   obtain ⟨cs, d', m', F, g1, g2, g3, g4, g5, g6, g7, g8⟩ := ih as' d1 hM h3 hh
   refine ⟨c :: cs, d', m', fun j x => match j with | 0 => False | j + 1 => F j x, g1, g2, g3, by simp [g4], fun hd => hd1 (g5 hd), fun j v c' hv hc' => ?_, fun j x hf => ?_, fun j j' x hf hf' => ?_⟩
   ·rw [hus] at hv
    cases j with
    | zero =>
     simp at hv hc'; subst hv; subst hc'
     obtain ⟨e1, e2⟩ := hc _ h1
     exact ⟨e1.keep fun k hk => ⟨.inl hk, rfl⟩, fun hd => e2 (g5 hd)⟩
    | succ j => exact g6 j v c' (by simpa using hv) (by simpa using hc')
   ·cases j with
    | zero => exact hf.elim
    | succ j => exact g7 j x hf
   ·cases j with
    | zero => exact hf.elim
    | succ j =>
     cases j' with
     | zero => exact hf'.elim
     | succ j' => rw [g8 j j' x hf hf']
  cases as with
  | nil => cases q <;> (simp only [toCells] at h; cases h)
  | cons a as =>
   cases q with
   | sc =>
    cases a with
    | s v =>
     simp only [toCells] at h
     refine plain d (.s v) (.s v) as rfl id (fun u hu => ?_) h
     obtain ⟨rfl, h1⟩ := hu
     exact ⟨.s h1, fun _ => .s h1⟩
    | _ => simp only [toCells] at h; cases h
   | sl e =>
    cases a with
    | s v =>
     have nil : v = .slice none 0 0 → _ := fun hv : v = .slice none 0 0 => by
      subst hv
      simp only [toCells] at h
      refine plain d (.sl e []) (.s (.slice none 0 0)) as rfl id (fun u hu => ?_) h
      obtain ⟨rfl, h1⟩ := hu
      refine ⟨.sl (val := fun _ _ => undef) rfl (Nat.le_refl _) (Nat.zero_le _) (by simp) (fun i j hi => by simp at hi) (fun i j hi => by simp at hi), fun _ => ?_⟩
      exact .sl (inner := []) (F := fun _ _ _ => False) (World.ownsRowG_nil w 0 e (E.sz e)) (fun k hk => by simp [Value.ownBlock] at hk) (fun i j k hi => by simp at hi) (fun i j i' j' k hi => by simp at hi) (fun i j hi => by simp at hi)
     cases v with
     | slice A l c =>
      cases A with
      | none =>
       cases l with
       | zero =>
        cases c with
        | zero => exact nil rfl
        | succ c => simp only [toCells] at h; cases h
       | succ l => simp only [toCells] at h; cases h
      | some A => simp only [toCells] at h; cases h
     | _ => simp only [toCells] at h; cases h
    | imm e' xs =>
     simp only [toCells] at h
     refine plain false (.sl e' xs) (.imm e' xs) as rfl (by simp) (fun u hu => ⟨hu, by simp⟩) h
    | row id =>
     simp only [toCells] at h
     obtain ⟨b, hb, h⟩ := run_get h
     split at h
     ·rename_i d1 e1 xs
      have h' := run_del h
      obtain ⟨u, us, hus, h1, h2, h3⟩ := ha.tail
      have hM' := hM.del id
      obtain ⟨cs, d', m', F, g1, g2, g3, g4, g5, g6, g7, g8⟩ := ih as (d && d1) hM' (h3.keep (Mle.del id) (Nat.le_refl _) fun k hk => ⟨hk, rfl⟩) h'
      have hsub : Sub m m' := (Sub.del m id).trans g3
      have hnone : look m' id = none := g3.none (by rw [look_del, if_pos rfl])
      refine ⟨.sl e1 xs :: cs, d', m', fun j x => match j with | 0 => G.fp id x | j + 1 => F j x, g1, g2, hsub, by simp [g4], fun hd => by have := g5 hd; simp at this; exact this.1, fun j v c' hv hc' => ?_, fun j x hf => ?_, fun j j' x hf hf' => ?_⟩
      ·rw [hus] at hv
       cases j with
       | zero =>
        simp at hv hc'; subst hv; subst hc'
        have hu := h1.2.2 _ _ _ hb
        have htop : Top E w G.I d1 (G.fp id) (G.hd id) e1 xs := hM.bl id _ hb
        rw [hu]
        refine ⟨htop.rd (fun k hk => .inl hk) (fun k hk => .inr hk), fun hd => ?_⟩
        have hd1 : d1 = true := by have := g5 hd; simp at this; exact this.2
        subst hd1
        exact htop.ow
       | succ j => exact g6 j v c' (by simpa using hv) (by simpa using hc')
      ·cases j with
       | zero => exact ⟨id, _, hb, hnone, hf⟩
       | succ j =>
        obtain ⟨id', b', e1, e2, e3⟩ := g7 j x hf
        exact ⟨id', b', Sub.del m id id' b' e1, e2, e3⟩
      ·have key : ∀ j, F j x → ¬ G.fp id x := fun j hf hx => by
        obtain ⟨id', b', e1, e2, e3⟩ := g7 j x hf
        have hne : id' ≠ id := fun e => by subst e; rw [look_del, if_pos rfl] at e1; cases e1
        exact hM.dj id' id b' _ (Sub.del m id id' b' e1) hb hne x e3 hx
       cases j with
       | zero =>
        cases j' with
        | zero => rfl
        | succ j' => exact (key j' hf' hf).elim
       | succ j =>
        cases j' with
        | zero => exact (key j hf hf').elim
        | succ j' => rw [g8 j j' x hf hf']
     ·cases h
    | _ => simp only [toCells] at h; cases h
end
end Go.B
