/- What the reckoner's plain operations say of the program's: rows that are made. -/
import Derived.Test.YtepfpdaehcmblaaBOps6
namespace Go.B
open Go Go.RowKit
set_option linter.unusedVariables false
set_option linter.unusedSimpArgs false
variable {E : Env} {P : Program}
section
variable {R : Type} {G : Gh} {w w0 w1 : World} {m m' : Mem E} {n : Nat} {K : AV E → Mem E → Option R} {r : R} {Φ Ψ : Nat → Prop} {I0 : Ent} {ts : List (AV E)} {a : Act}
theorem row_core {id n' : Nat} (hM : MrX E w0 Φ I0 G m n w id) (hid : id < n') (hn : n ≤ n') (hf : Frame Ψ w w1) (hΨ : ∀ k, Ψ k → (w0.heap.size ≤ k ∨ Φ k) ∧ ¬ G.I k ∧ ∀ j b, look m j = some b → j ≠ id → ¬ G.fp j k)
  {v : Value} {e : TypeId} {xs : List (E.T e)} {d : Bool} {inner : List Value} {F : Nat → Nat → Nat → Prop} (ho : w1.ownsRowG 0 e (E.sz e) v xs.length inner)
  (hb : ∀ k, v.ownBlock = some k → w.heap.size ≤ k ∨ Ψ k) (hc : ∀ x y, x < xs.length → y < E.sz e → Give E w1 G.I (F x y) d (inner.getD (x * E.sz e + y) undef) (cellAt E e (xs.getD x (E.dflt e)) y))
  (hF : ∀ x y k, x < xs.length → y < E.sz e → F x y k → (w0.heap.size ≤ k ∨ Φ k) ∧ k < w.heap.size ∧ ¬ G.I k ∧ ¬ Ψ k ∧ ∀ j b, look m j = some b → j ≠ id → ¬ G.fp j k)
  (hd : ∀ x y x' y' k, x < xs.length → y < E.sz e → x' < xs.length → y' < E.sz e → F x y k → F x' y' k → x = x' ∧ y = y')
  (hmle : ∀ (I' : Nat → Prop) (Fp : Nat → Prop), Mle { G with I := I' } m n (({ G with I := I' } : Gh).upd id v 0 Fp) (setm m id (.row d e xs))) :
  ∃ G', Mr E w0 Φ I0 G' (setm m id (.row d e xs)) n' w1 ∧ Mle G m n G' (setm m id (.row d e xs)) ∧ G'.hd id = v ∧ ∀ k, G.I k → G'.I k ∧ w1.heap[k]? = w.heap[k]? := by
 have hbk : ∀ k, v.ownBlock = some k → (w0.heap.size ≤ k ∨ Φ k) ∧ k < w1.heap.size ∧ ¬ G.I k ∧ ∀ j b, look m j = some b → j ≠ id → ¬ G.fp j k := fun k hk => by
  have hlt := (ho.lt k hk).2
  rcases hb k hk with h1 | h1
  ·exact ⟨.inl (Nat.le_trans hM.fr.size h1), hlt, fun hI => absurd (hM.il k hI) (Nat.not_lt.2 h1), fun j b hj hji hfp => absurd (hM.lo j b hj hji k hfp).2.1 (Nat.not_lt.2 h1)⟩
  ·exact ⟨(hΨ k h1).1, hlt, (hΨ k h1).2.1, (hΨ k h1).2.2⟩
 have hbF : ∀ x y k, x < xs.length → y < E.sz e → F x y k → v.ownBlock ≠ some k := fun x y k hx hy hk hv => by
  have h1 := hF x y k hx hy hk
  rcases hb k hv with h2 | h2
  ·exact absurd h1.2.1 (Nat.not_lt.2 h2)
  ·exact h1.2.2.2.1 h2
 have hiI : ∀ k, G.I k → w1.heap[k]? = w.heap[k]? := fun k hk => hf.block k (hM.il k hk) fun hp => (hΨ k hp).2.1 hk
 cases d with
 | true =>
  let Fp : Nat → Prop := fun k => v.ownBlock = some k ∨ ∃ x y, x < xs.length ∧ y < E.sz e ∧ F x y k
  have hm := hmle G.I Fp
  refine ⟨G.upd id v 0 Fp, hM.put (Ψ := Ψ) hid hn hf hΨ hm ?_ ?_, hm, by simp [Gh.upd], fun k hk => ⟨hk, hiI k hk⟩⟩
  ·have e1 : (G.upd id v 0 Fp).fp id = Fp := by simp [Gh.upd]
   have e2 : (G.upd id v 0 Fp).hd id = v := by simp [Gh.upd]
   show Top E w1 G.I true _ _ e xs
   rw [e1, e2]
   refine ⟨inner, F, ho, fun k hk => .inl hk, fun x y k hx hy hk => ⟨.inr ⟨x, y, hx, hy, hk⟩, hbF x y k hx hy hk⟩, hd, fun x y hx hy => ?_⟩
   unfold In
   rw [if_pos rfl]
   exact (hc x y hx hy).2 rfl
  ·rintro k (hk | ⟨x, y, hx, hy, hk⟩)
   ·exact hbk k hk
   ·obtain ⟨h1, h2, h3, _, h4⟩ := hF x y k hx hy hk
    exact ⟨h1, Nat.lt_of_lt_of_le h2 hf.size, h3, h4⟩
 | false =>
  let Z : Nat → Prop := fun k => ∃ x y, x < xs.length ∧ y < E.sz e ∧ F x y k
  have hM' := hM.freeze (Z := Z) (fun k ⟨x, y, hx, hy, hk⟩ => ⟨(hF x y k hx hy hk).1, (hF x y k hx hy hk).2.1, (hF x y k hx hy hk).2.2.2.2⟩)
  let Fp : Nat → Prop := fun k => v.ownBlock = some k
  have hm := hmle (fun k => G.I k ∨ Z k) Fp
  have hZw : ∀ k, (G.I k ∨ Z k) → w1.heap[k]? = w.heap[k]? := fun k hk => by
   rcases hk with hk | ⟨x, y, hx, hy, hk⟩
   ·exact hiI k hk
   ·exact hf.block k (hF x y k hx hy hk).2.1 (hF x y k hx hy hk).2.2.2.1
  refine ⟨({ G with I := fun k => G.I k ∨ Z k } : Gh).upd id v 0 Fp, hM'.put (Ψ := Ψ) hid hn hf (fun k hk => ⟨(hΨ k hk).1, fun hI => hI.elim (hΨ k hk).2.1 fun ⟨x, y, hx, hy, hk'⟩ => (hF x y k hx hy hk').2.2.2.1 hk, (hΨ k hk).2.2⟩) hm ?_ ?_, hm, by simp [Gh.upd], fun k hk => ⟨.inl hk, hiI k hk⟩⟩
  ·have e1 : (({ G with I := fun k => G.I k ∨ Z k } : Gh).upd id v 0 Fp).fp id = Fp := by simp [Gh.upd]
   have e2 : (({ G with I := fun k => G.I k ∨ Z k } : Gh).upd id v 0 Fp).hd id = v := by simp [Gh.upd]
   show Top E w1 (fun k => G.I k ∨ Z k) false _ _ e xs
   rw [e1, e2]
   refine ⟨inner, fun _ _ _ => False, ho, fun k hk => hk, fun x y k hx hy hk => hk.elim, fun x y x' y' k _ _ _ _ hk => hk.elim, fun x y hx hy => ?_⟩
   unfold In
   rw [if_neg (by simp)]
   exact (hc x y hx hy).1.keep fun k hk => ⟨hk.elim .inl fun hk => .inr ⟨x, y, hx, hy, hk⟩, rfl⟩
  ·intro k hk
   obtain ⟨h1, h2, h3, h4⟩ := hbk k hk
   refine ⟨h1, h2, fun hI => hI.elim h3 fun ⟨x, y, hx, hy, hk'⟩ => hbF x y k hx hy hk' hk, h4⟩
theorem weaken_sound (hM : Mr E w0 Φ I0 G m n w) {id : Nat} {e : TypeId} {xs : List (E.T e)} (hb : look m id = some (.row true e xs)) :
  ∃ G', Mr E w0 Φ I0 G' (setm m id (.row false e xs)) n w ∧ Mle G m n G' (setm m id (.row false e xs)) ∧ G'.hd id = G.hd id ∧ ∀ k, G.I k → G'.I k ∧ w.heap[k]? = w.heap[k]? := by
 obtain ⟨inner, F, ho, hbk, hf, hdj, hin⟩ := hM.bl id _ hb
 refine row_core (Ψ := fun k => (G.hd id).ownBlock = some k) (F := F) (inner := inner) (d := false) (hM.x id) (hM.lt id _ hb) (Nat.le_refl _) (Frame.refl _ _) (fun k hk => ?_) ho (fun k hk => .inr hk) (fun x y hx hy => ⟨?_, fun h => by cases h⟩) (fun x y k hx hy hk => ?_) hdj (fun I' Fp => Mle.row hb rfl 0 Fp)
 ·have h1 := hM.lo id _ hb k (hbk k hk)
  exact ⟨h1.1, h1.2.2, fun j b hj hne hk' => hM.dj id j _ b hb hj (Ne.symm hne) k (hbk k hk) hk'⟩
 ·have h1 := hin x y hx hy
  unfold In at h1
  rw [if_pos rfl] at h1
  exact h1.rd fun k hk => .inr hk
 ·have h1 := hf x y k hx hy hk
  have h2 := hM.lo id _ hb k h1.1
  exact ⟨h2.1, h2.2.1, h2.2.2, h1.2, fun j b hj hne hk' => hM.dj id j _ b hb hj (Ne.symm hne) k h1.1 hk'⟩
theorem load_sound (hE : EnvOK E P) (hM : Mr E w0 Φ I0 G m n w) (hT : Tr E G ts m n a w) {t : TypeId} {i : TI} (hi : E.info t = some i) {p : A1 E} {u : Value} (hp : A1r E G w m n p u) (h : (loadA i p).run m K = some r) :
  ∃ v m' G' u', K v m' = some r ∧ (Instr.loadAt t u).run P w = .ok u' w ∧ Mr E w0 Φ I0 G' m' n w ∧ Tr E G' ts m' n a w ∧ AVr E G' w m' n v u' ∧ ((∀ v m', K v m' = some r → m' = m) → m' = m ∧ G' = G) := by
 have plain : (loadQ i p).run m K = some r → ∃ v m' G' u', K v m' = some r ∧ (Instr.loadAt t u).run P w = .ok u' w ∧ Mr E w0 Φ I0 G' m' n w ∧ Tr E G' ts m' n a w ∧ AVr E G' w m' n v u' ∧ ((∀ v m', K v m' = some r → m' = m) → m' = m ∧ G' = G) := fun h => by
  obtain ⟨v, u', h1, h2, h3⟩ := loadQ_sound hE hM hi hp h
  exact ⟨v, m, G, u', h1, h2, hM, hT, h3, fun _ => ⟨rfl, rfl⟩⟩
 unfold loadA at h
 split at h
 ·rename_i id j off
  obtain ⟨b, hb, h⟩ := run_get h
  split at h
  ·rename_i e xs
   split at h
   ·exact plain h
   ·have h' := run_put h
    obtain ⟨G', g1, g2, g3, g4⟩ := weaken_sound hM hb
    have hp' := hp.keep g2 (Nat.le_refl _) g4
    obtain ⟨v, u', h1, h2, h3⟩ := loadQ_sound hE g1 hi hp' h'
    refine ⟨v, _, G', u', h1, h2, g1, hT.keep g2 (Nat.le_refl _) g4, h3, fun hK => ?_⟩
    exfalso
    have := hK _ _ h1
    have h5 : look (setm m id (.row false e xs)) id = look m id := by rw [this]
    rw [look_set, if_pos rfl, hb] at h5
    injection h5 with h5
    injection h5 with h5 _ _
    cases h5
  ·exact plain h
 ·exact plain h
theorem row_put (hM : Mr E w0 Φ I0 G m n w) (hT : Tr E G ts m n a w) (hf : Frame Ψ w w1) (hΨ : ∀ k, Ψ k → (w0.heap.size ≤ k ∨ Φ k) ∧ ¬ G.I k ∧ ∀ j b, look m j = some b → ¬ G.fp j k)
  {v : Value} {e : TypeId} {xs : List (E.T e)} {d : Bool} {inner : List Value} {F : Nat → Nat → Nat → Prop} (ho : w1.ownsRowG 0 e (E.sz e) v xs.length inner)
  (hb : ∀ k, v.ownBlock = some k → w.heap.size ≤ k ∨ Ψ k) (hc : ∀ x y, x < xs.length → y < E.sz e → Give E w1 G.I (F x y) d (inner.getD (x * E.sz e + y) undef) (cellAt E e (xs.getD x (E.dflt e)) y))
  (hF : ∀ x y k, x < xs.length → y < E.sz e → F x y k → (w0.heap.size ≤ k ∨ Φ k) ∧ k < w.heap.size ∧ ¬ G.I k ∧ ¬ Ψ k ∧ ∀ j b, look m j = some b → ¬ G.fp j k)
  (hd : ∀ x y x' y' k, x < xs.length → y < E.sz e → x' < xs.length → y' < E.sz e → F x y k → F x' y' k → x = x' ∧ y = y') :
  ∃ G', Mr E w0 Φ I0 G' (setm m n (.row d e xs)) (n + wide) w1 ∧ Tr E G' ts (setm m n (.row d e xs)) (n + wide) a w1 ∧ AVr E G' w1 (setm m n (.row d e xs)) (n + wide) (.v (.c (.row n))) v := by
 have hn : n < n + wide := by simp [wide]
 have hone : v.oneCell' = true := by rcases ho.2 with ⟨rfl, _⟩ | ⟨g, cap, cur, rfl, _⟩ <;> rfl
 obtain ⟨G', g1, g2, g3, g4⟩ := row_core (hM.x n) hn (Nat.le_of_lt hn) hf (fun k hk => ⟨(hΨ k hk).1, (hΨ k hk).2.1, fun j b hj _ => (hΨ k hk).2.2 j b hj⟩) ho hb hc
  (fun x y k hx hy hk => by obtain ⟨h1, h2, h3, h4, h5⟩ := hF x y k hx hy hk; exact ⟨h1, h2, h3, h4, fun j b hj _ => h5 j b hj⟩) hd (fun I' Fp => Mle.new _ _ _ _)
 exact ⟨G', g1, hT.keep g2 (Nat.le_of_lt hn) g4, hn, hone, fun d' e' xs' hl => g3.symm⟩
theorem Gone.facts (hM : Mr E w0 Φ I0 G m n w) (hs : Sub m m') {k : Nat} (h : Gone G m m' k) : (w0.heap.size ≤ k ∨ Φ k) ∧ k < w.heap.size ∧ ¬ G.I k ∧ ∀ j b, look m' j = some b → ¬ G.fp j k := by
 obtain ⟨id, b, h1, h2, h3⟩ := h
 obtain ⟨g1, g2, g3⟩ := hM.lo id b h1 k h3
 refine ⟨g1, g2, g3, fun j c hj hk => ?_⟩
 have hne : j ≠ id := fun e => by subst e; rw [hj] at h2; cases h2
 exact hM.dj id j b c h1 (hs j c hj) (Ne.symm hne) k h3 hk
theorem chunk_sound (hE : EnvOK E P) {e : TypeId} {i : TI} (hi : E.info e = some i) : ∀ (mm : Nat) (as : List (A1 E)) (d : Bool) {k : List (E.T e) → Bool → Mp E} {m : Mem E} {arr : Array Value}, Mr E w0 Φ I0 G m n w → A1l E G w m n as arr → mm * i.size ≤ as.length →
  (chunk E e i mm as d k).run m K = some r →
  ∃ (xs : List (E.T e)) (d' : Bool) (m' : Mem E) (F : Nat → Nat → Nat → Prop), (k xs d').run m' K = some r ∧ Mr E w0 Φ I0 G m' n w ∧ Sub m m' ∧ xs.length = mm ∧ (d' = true → d = true) ∧
   (∀ x y, x < mm → y < i.size → Give E w G.I (F x y) d' (arr.toList.getD (x * i.size + y) undef) (cellAt E e (xs.getD x (E.dflt e)) y)) ∧
   (∀ x y k, F x y k → Gone G m m' k) ∧ (∀ x y x' y' k, F x y k → F x' y' k → x = x' ∧ y = y') := by
 intro mm
 induction mm with
 | zero =>
  intro as d k m arr hM ha hl h
  simp only [chunk] at h
  exact ⟨[], d, m, fun _ _ _ => False, h, hM, Sub.refl m, rfl, id, fun x y hx => by omega, fun _ _ _ hf => hf.elim, fun _ _ _ _ _ hf => hf.elim⟩
 | succ mm ih =>
  intro as d k m arr hM ha hl h
  have hsz : i.size ≤ as.length := by rw [Nat.add_mul, Nat.one_mul] at hl; omega
  simp only [chunk] at h
  have hta : A1l E G w m n (as.take i.size) (arr.toList.take i.size).toArray := by
   refine .of (by simp [ha.1]) fun j c hj => ?_
   rw [List.getElem?_take] at hj
   split at hj
   ·rename_i hjl
    obtain ⟨u, hu, h1⟩ := ha.get hj
    exact ⟨u, by simp only [List.toList_toArray, List.getElem?_take, hjl, if_true]; exact hu, h1⟩
   ·cases hj
  obtain ⟨cs, d1, m1, F1, g1, g2, g3, g4, g5, g6, g7, g8⟩ := toCells_sound i.ck (as.take i.size) d hM hta h
  split at g1
  ·rename_i x hx
   have hcs := hE.make e cs x hx
   have hda : A1l E G w m1 n (as.drop i.size) (arr.toList.drop i.size).toArray := by
    refine .of (by simp [ha.1]) fun j c hj => ?_
    rw [List.getElem?_drop] at hj
    obtain ⟨u, hu, h1⟩ := ha.get hj
    exact ⟨u, by simp only [List.toList_toArray, List.getElem?_drop]; exact hu, h1.1.keep g3.mle (Nat.le_refl _) (fun k hk => ⟨hk, rfl⟩), h1.2⟩
   obtain ⟨xs, d', m', F, f1, f2, f3, f4, f5, f6, f7, f8⟩ := ih (as.drop i.size) d1 g2 hda (by rw [Nat.add_mul, Nat.one_mul] at hl; simp; omega) g1
   have hsub := g3.trans f3
   have key : ∀ j x' y k, F1 j k → F x' y k → False := fun j x' y k h1 h2 => by
    obtain ⟨id, b, a1, a2, a3⟩ := g7 j k h1
    obtain ⟨id', b', b1, b2, b3⟩ := f7 x' y k h2
    have hne : id ≠ id' := fun e => by subst e; rw [b1] at a2; cases a2
    exact hM.dj id id' b b' a1 (g3 _ _ b1) hne k a3 b3
   refine ⟨x :: xs, d', m', fun x' y => match x' with | 0 => F1 y | x' + 1 => F x' y, f1, f2, hsub, by simp [f4], fun hd => g5 (f5 hd), fun x' y hx' hy => ?_, fun x' y k hk => ?_, fun x' y x'' y' k hk hk' => ?_⟩
   ·cases x' with
    | zero =>
     have hcl : cs.length = i.size := by rw [g4]; simp; omega
     have hu : (arr.toList.take i.size)[y]? = some (arr.toList.getD (0 * i.size + y) undef) := by
      rw [List.getElem?_take, if_pos hy]
      have : y < arr.toList.length := by have := ha.1; simp; omega
      simp [List.getD, List.getElem?_eq_getElem this]
     have hc : cs[y]? = some (cellAt E e x y) := by
      have : y < cs.length := by omega
      simp [cellAt, hcs, List.getD, List.getElem?_eq_getElem this]
     have := g6 y (arr.toList.getD (0 * i.size + y) undef) (cellAt E e x y) (by rw [List.toList_toArray]; exact hu) hc
     exact ⟨this.1, fun hd => this.2 (f5 hd)⟩
    | succ x' =>
     have := f6 x' y (by omega) hy
     have e1 : (arr.toList.drop i.size).getD (x' * i.size + y) undef = arr.toList.getD ((x' + 1) * i.size + y) undef := by
      simp only [List.getD_eq_getElem?_getD, List.getElem?_drop]
      congr 2
      rw [Nat.add_mul, Nat.one_mul]; omega
     simp only [List.toList_toArray] at this
     rw [e1] at this
     simpa using this
   ·cases x' with
    | zero =>
     obtain ⟨id, b, a1, a2, a3⟩ := g7 y k hk
     exact ⟨id, b, a1, f3.none a2, a3⟩
    | succ x' =>
     obtain ⟨id, b, a1, a2, a3⟩ := f7 x' y k hk
     exact ⟨id, b, g3 _ _ a1, a2, a3⟩
   ·cases x' with
    | zero =>
     cases x'' with
     | zero => exact ⟨rfl, g8 y y' k hk hk'⟩
     | succ x'' => exact (key _ _ _ k hk hk').elim
    | succ x' =>
     cases x'' with
     | zero => exact (key _ _ _ k hk' hk).elim
     | succ x'' =>
      obtain ⟨e1, e2⟩ := f8 x' y x'' y' k hk hk'
      exact ⟨by rw [e1], e2⟩
  ·cases g1
end
end Go.B
