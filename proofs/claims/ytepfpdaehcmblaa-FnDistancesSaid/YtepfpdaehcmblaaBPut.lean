/- A row or a variable is written, made, given away. -/
import Derived.Test.YtepfpdaehcmblaaBState
namespace Go.B
open Go Go.RowKit
set_option linter.unusedSimpArgs false
set_option linter.unusedVariables false
variable {E : Env}
def Gh.upd (G : Gh) (id : Nat) (v : Value) (b : Nat) (F : Nat → Prop) : Gh :=
 {hd := fun j => if j = id then v else G.hd j, bk := fun j => if j = id then b else G.bk j, fp := fun j => if j = id then F else G.fp j, I := G.I, ih := G.ih }
structure MrX (E : Env) (w0 : World) (Φ : Nat → Prop) (I0 : Ent) (G : Gh) (m : Mem E) (n : Nat) (w : World) (id : Nat) : Prop where
 fr : Frame Φ w0 w
 lt : ∀ j b, look m j = some b → j < n
 bl : ∀ j b, look m j = some b → j ≠ id → Blkr E G w m n j b
 lo : ∀ j b, look m j = some b → j ≠ id → ∀ k, G.fp j k → (w0.heap.size ≤ k ∨ Φ k) ∧ k < w.heap.size ∧ ¬ G.I k
 dj : ∀ i j b b', look m i = some b → look m j = some b' → i ≠ id → j ≠ id → i ≠ j → ∀ k, G.fp i k → ¬ G.fp j k
 il : ∀ k, G.I k → k < w.heap.size
 ii : ∀ k, G.I k → I0.I k ∨ w0.heap.size ≤ k ∨ Φ k
 ip : ∀ k, I0.I k → G.I k
 nn : I0.N ≤ n
 an : ∀ j cs, j < I0.N → look m j = some (.box cs) → G.bk j = I0.g j
 ar : ∀ j d e xs, j < I0.M → look m j = some (.row d e xs) → G.hd j = I0.h j
theorem Mr.x {G : Gh} {w w0 : World} {m : Mem E} {n : Nat} {Φ : Nat → Prop} {I0 : Ent} (h : Mr E w0 Φ I0 G m n w) (id : Nat) : MrX E w0 Φ I0 G m n w id :=
 ⟨h.fr, h.lt, fun j b hj _ => h.bl j b hj, fun j b hj _ => h.lo j b hj, fun i j b b' hi hj _ _ hij => h.dj i j b b' hi hj hij, h.il, h.ii, h.ip, h.nn, h.an, h.ar⟩
section
variable {G G' : Gh} {w w' : World} {m m' : Mem E} {n n' : Nat} {w0 : World} {Φ Ψ : Nat → Prop} {I0 : Ent}
theorem MrX.freeze {id : Nat} (h : MrX E w0 Φ I0 G m n w id) {Z : Nat → Prop} (hZ : ∀ k, Z k → (w0.heap.size ≤ k ∨ Φ k) ∧ k < w.heap.size ∧ ∀ j b, look m j = some b → j ≠ id → ¬ G.fp j k) : MrX E w0 Φ I0 { G with I := fun k => G.I k ∨ Z k } m n w id := by
 have hi : ∀ k, G.I k → (G.I k ∨ Z k) ∧ w.heap[k]? = w.heap[k]? := fun k hk => ⟨.inl hk, rfl⟩
 refine ⟨h.fr, h.lt, fun j c hc hj => ?_, fun j c hc hj k hk => ?_, h.dj, fun k hk => hk.elim (h.il k) fun hk => (hZ k hk).2.1, fun k hk => hk.elim (h.ii k) fun hk => .inr (hZ k hk).1, fun k hk => .inl (h.ip k hk), h.nn, h.an, h.ar⟩
 ·have hb' := h.bl j c hc hj
  cases c with
  | box cs =>
   obtain ⟨⟨arr, ty, h1, h2⟩, h3⟩ := hb'
   exact ⟨⟨arr, ty, h1, h2.keep (Mle.refl _ _ _) (Nat.le_refl _) hi⟩, h3⟩
  | row d e xs => exact Top.keep hb' hi fun k hk => ⟨hk, rfl⟩
  | rowV e xs => exact ⟨Top.keep hb'.1 hi fun k hk => ⟨hk, rfl⟩, hb'.2⟩
 ·have := h.lo j c hc hj k hk
  exact ⟨this.1, this.2.1, fun hI => hI.elim this.2.2 fun hk' => (hZ k hk').2.2 j c hc hj hk⟩
theorem MrX.put {id : Nat} (h : MrX E w0 Φ I0 G m n w id) {b : Blk E} {v : Value} {bk : Nat} {F : Nat → Prop} (hid : id < n') (hn : n ≤ n') (hf : Frame Ψ w w')
  (hΨ : ∀ k, Ψ k → (w0.heap.size ≤ k ∨ Φ k) ∧ ¬ G.I k ∧ ∀ j b, look m j = some b → j ≠ id → ¬ G.fp j k)
  (hm : Mle G m n (G.upd id v bk F) (setm m id b)) (hb : Blkr E (G.upd id v bk F) w' (setm m id b) n' id b)
  (hF : ∀ k, F k → (w0.heap.size ≤ k ∨ Φ k) ∧ k < w'.heap.size ∧ ¬ G.I k ∧ ∀ j b, look m j = some b → j ≠ id → ¬ G.fp j k) :
  Mr E w0 Φ I0 (G.upd id v bk F) (setm m id b) n' w' := by
 have hi : ∀ k, G.I k → G.I k ∧ w'.heap[k]? = w.heap[k]? := fun k hk => ⟨hk, hf.block k (h.il k hk) fun hp => (hΨ k hp).2.1 hk⟩
 have hl : ∀ j c, look (setm m id b) j = some c → j ≠ id → look m j = some c := fun j c hc hj => by rw [look_set, if_neg (Ne.symm hj)] at hc; exact hc
 have hfp : ∀ j, j ≠ id → (G.upd id v bk F).fp j = G.fp j := fun j hj => by simp [Gh.upd, hj]
 have hfi : (G.upd id v bk F).fp id = F := by simp [Gh.upd]
 refine ⟨h.fr.step hf fun k hk => (hΨ k hk).1, fun j c hc => ?_, fun j c hc => ?_, fun j c hc k hk => ?_, fun i j b' c' hb' hc' hij k hk => ?_, fun k hk => Nat.lt_of_lt_of_le (h.il k hk) hf.size, h.ii, h.ip, Nat.le_trans h.nn hn, fun j cs hj hc => ?_, fun j d e xs hj hc => ?_⟩
 ·by_cases hj : j = id
  ·subst hj; exact hid
  ·exact Nat.lt_of_lt_of_le (h.lt j c (hl j c hc hj)) hn
 ·by_cases hj : j = id
  ·subst hj
   rw [look_set, if_pos rfl] at hc
   cases hc
   exact hb
  ·have hc0 := hl j c hc hj
   have hb' := h.bl j c hc0 hj
   have hk' : ∀ k, G.fp j k → w'.heap[k]? = w.heap[k]? := fun k hk => hf.block k (h.lo j c hc0 hj k hk).2.1 fun hp => (hΨ k hp).2.2 j c hc0 hj hk
   cases c with
   | box cs =>
    obtain ⟨⟨arr, ty, h1, h2⟩, h3⟩ := hb'
    refine ⟨⟨arr, ty, ?_, h2.keep hm hn hi⟩, ?_⟩
    ·simp only [Gh.upd, hj, if_false]; exact (hk' _ h3).trans h1
    ·simp only [Gh.upd, hj, if_false]; exact h3
   | row d e xs =>
    show Top E w' G.I d _ _ e xs
    rw [hfp j hj]
    have : (G.upd id v bk F).hd j = G.hd j := by simp [Gh.upd, hj]
    rw [this]
    exact Top.keep hb' hi fun k hk => ⟨hk, hk' k hk⟩
   | rowV e xs =>
    show Top E w' G.I true _ _ e xs ∧ Hds E w' _ _ e xs
    rw [hfp j hj]
    have : (G.upd id v bk F).hd j = G.hd j := by simp [Gh.upd, hj]
    rw [this]
    exact ⟨Top.keep hb'.1 hi fun k hk => ⟨hk, hk' k hk⟩, Hds.keep hb'.2 hb'.1 hk'⟩
 ·by_cases hj : j = id
  ·subst hj
   rw [hfi] at hk
   exact ⟨(hF k hk).1, (hF k hk).2.1, (hF k hk).2.2.1⟩
  ·rw [hfp j hj] at hk
   have := h.lo j c (hl j c hc hj) hj k hk
   exact ⟨this.1, Nat.lt_of_lt_of_le this.2.1 hf.size, this.2.2⟩
 ·by_cases hi' : i = id
  ·subst hi'
   rw [hfi] at hk
   rw [hfp j (Ne.symm hij)]
   exact (hF k hk).2.2.2 j c' (hl j c' hc' (Ne.symm hij)) (Ne.symm hij)
  ·rw [hfp i hi'] at hk
   by_cases hj : j = id
   ·subst hj
    rw [hfi]
    exact fun hk2 => (hF k hk2).2.2.2 i b' (hl i b' hb' hi') hi' hk
   ·rw [hfp j hj]
    exact h.dj i j b' c' (hl i b' hb' hi') (hl j c' hc' hj) hi' hj hij k hk
 ·by_cases hji : j = id
  ·subst hji
   obtain ⟨e1, cs0, e2⟩ := (hm j (Nat.lt_of_lt_of_le hj h.nn)).2.1 cs hc
   rw [e1]; exact h.an j cs0 hj e2
  ·have : (G.upd id v bk F).bk j = G.bk j := by simp [Gh.upd, hji]
   rw [this]; exact h.an j cs hj (hl j _ hc hji)
 ·obtain ⟨e1, d0, xs0, e2, _⟩ := (hm j (Nat.lt_of_lt_of_le hj (Nat.le_trans I0.mn h.nn))).1 d e xs hc
  rw [e1]; exact h.ar j d0 e xs0 hj e2
theorem Mr.put (h : Mr E w0 Φ I0 G m n w) {id : Nat} {b : Blk E} {v : Value} {bk : Nat} {F : Nat → Prop} (hid : id < n') (hn : n ≤ n') (hf : Frame Ψ w w')
  (hΨ : ∀ k, Ψ k → (w0.heap.size ≤ k ∨ Φ k) ∧ ¬ G.I k ∧ ∀ j b, look m j = some b → j ≠ id → ¬ G.fp j k)
  (hm : Mle G m n (G.upd id v bk F) (setm m id b)) (hb : Blkr E (G.upd id v bk F) w' (setm m id b) n' id b)
  (hF : ∀ k, F k → (w0.heap.size ≤ k ∨ Φ k) ∧ k < w'.heap.size ∧ ¬ G.I k ∧ ∀ j b, look m j = some b → j ≠ id → ¬ G.fp j k) :
  Mr E w0 Φ I0 (G.upd id v bk F) (setm m id b) n' w' := (h.x id).put hid hn hf hΨ hm hb hF
theorem Mle.new (b : Blk E) (v : Value) (bk : Nat) (F : Nat → Prop) : Mle G m n (G.upd n v bk F) (setm m n b) := fun j hj => by
 have hne : j ≠ n := Nat.ne_of_lt hj
 refine ⟨fun d e xs hx => ?_, fun cs hx => ?_, fun e xs hx => ?_⟩
 ·rw [look_set, if_neg (Ne.symm hne)] at hx
  exact ⟨by simp [Gh.upd, hne], d, xs, hx, rfl⟩
 ·rw [look_set, if_neg (Ne.symm hne)] at hx
  exact ⟨by simp [Gh.upd, hne], cs, hx⟩
 ·rw [look_set, if_neg (Ne.symm hne)] at hx
  exact ⟨by simp [Gh.upd, hne], rfl, xs, hx, rfl, fun i j e' ys' _ h => ⟨ys', h⟩⟩
theorem Mle.row {id : Nat} {d d' : Bool} {e : TypeId} {xs ys : List (E.T e)} (hl : look m id = some (.row d e xs)) (hx : ys.length = xs.length) (bk : Nat) (F : Nat → Prop) :
  Mle G m n (G.upd id (G.hd id) bk F) (setm m id (.row d' e ys)) := fun j hj => by
 by_cases hji : j = id
 ·subst hji
  refine ⟨fun d e xs hx' => ?_, fun cs hx => ?_, fun e xs hx => ?_⟩
  ·rw [look_set, if_pos rfl] at hx'
   cases hx'
   exact ⟨by simp [Gh.upd], _, _, hl, hx⟩
  ·rw [look_set, if_pos rfl] at hx; cases hx
  ·rw [look_set, if_pos rfl] at hx; cases hx
 ·refine ⟨fun d e xs hx => ?_, fun cs hx => ?_, fun e xs hx => ?_⟩
  ·rw [look_set, if_neg (Ne.symm hji)] at hx
   exact ⟨by simp [Gh.upd, hji], d, xs, hx, rfl⟩
  ·rw [look_set, if_neg (Ne.symm hji)] at hx
   exact ⟨by simp [Gh.upd, hji], cs, hx⟩
  ·rw [look_set, if_neg (Ne.symm hji)] at hx
   exact ⟨by simp [Gh.upd, hji], rfl, xs, hx, rfl, fun i j e' ys' _ h => ⟨ys', h⟩⟩
theorem Mle.box {id : Nat} {cs cs' : List (A1 E)} (hl : look m id = some (.box cs)) (v : Value) (F : Nat → Prop) :
  Mle G m n (G.upd id v (G.bk id) F) (setm m id (.box cs')) := fun j hj => by
 by_cases hji : j = id
 ·subst hji
  refine ⟨fun d e xs hx' => ?_, fun cs0 hx => ?_, fun e xs hx => ?_⟩
  ·rw [look_set, if_pos rfl] at hx'; cases hx'
  ·exact ⟨by simp [Gh.upd], cs, hl⟩
  ·rw [look_set, if_pos rfl] at hx; cases hx
 ·refine ⟨fun d e xs hx => ?_, fun cs hx => ?_, fun e xs hx => ?_⟩
  ·rw [look_set, if_neg (Ne.symm hji)] at hx
   exact ⟨by simp [Gh.upd, hji], d, xs, hx, rfl⟩
  ·rw [look_set, if_neg (Ne.symm hji)] at hx
   exact ⟨by simp [Gh.upd, hji], cs, hx⟩
  ·rw [look_set, if_neg (Ne.symm hji)] at hx
   exact ⟨by simp [Gh.upd, hji], rfl, xs, hx, rfl, fun i j e' ys' _ h => ⟨ys', h⟩⟩
theorem Mr.freeze (h : Mr E w0 Φ I0 G m n w) {id : Nat} {b : Blk E} (hl : look m id = some b) : Mr E w0 Φ I0 { G with I := fun k => G.I k ∨ G.fp id k } (delm m id) n w := by
 have hd := h.del id
 have hlk : ∀ j c, look (delm m id) j = some c → j ≠ id ∧ look m j = some c := fun j c hc => by
  rw [look_del] at hc; split at hc
  ·cases hc
  ·rename_i hne; exact ⟨Ne.symm hne, hc⟩
 have hi : ∀ k, G.I k → (G.I k ∨ G.fp id k) ∧ w.heap[k]? = w.heap[k]? := fun k hk => ⟨.inl hk, rfl⟩
 refine ⟨hd.fr, hd.lt, fun j c hc => ?_, fun j c hc k hk => ?_, hd.dj, fun k hk => hk.elim (h.il k) fun hk => (h.lo id b hl k hk).2.1, fun k hk => hk.elim (h.ii k) fun hk => .inr (h.lo id b hl k hk).1, fun k hk => .inl (h.ip k hk), hd.nn, hd.an, hd.ar⟩
 ·have hb' := hd.bl j c hc
  cases c with
  | box cs =>
   obtain ⟨⟨arr, ty, h1, h2⟩, h3⟩ := hb'
   exact ⟨⟨arr, ty, h1, h2.keep (Mle.refl _ _ _) (Nat.le_refl _) hi⟩, h3⟩
  | row d e xs => exact Top.keep hb' hi fun k hk => ⟨hk, rfl⟩
  | rowV e xs => exact ⟨Top.keep hb'.1 hi fun k hk => ⟨hk, rfl⟩, hb'.2⟩
 ·have := hd.lo j c hc k hk
  refine ⟨this.1, this.2.1, fun hI => hI.elim this.2.2 fun hk' => ?_⟩
  exact h.dj j id c b (hlk j c hc).2 hl (hlk j c hc).1 k hk hk'
theorem Mr.to (h : Mr E w0 Φ I0 G m n w) (hn : n ≤ n') : Mr E w0 Φ I0 G m n' w := by
 refine ⟨h.fr, fun j c hc => Nat.lt_of_lt_of_le (h.lt j c hc) hn, fun j c hc => ?_, h.lo, h.dj, h.il, h.ii, h.ip, Nat.le_trans h.nn hn, h.an, h.ar⟩
 have hb' := h.bl j c hc
 cases c with
 | box cs =>
  obtain ⟨⟨arr, ty, h1, h2⟩, h3⟩ := hb'
  exact ⟨⟨arr, ty, h1, h2.keep (Mle.refl _ _ _) hn fun k hk => ⟨hk, rfl⟩⟩, h3⟩
 | row d e xs => exact hb'
 | rowV e xs => exact hb'
theorem Tr.to {ts : List (AV E)} {a : Act} (h : Tr E G ts m n a w) (hn : n ≤ n') : Tr E G ts m n' a w := h.keep (Mle.refl _ _ _) hn fun k hk => ⟨hk, rfl⟩
end
theorem putE_eq {e : TypeId} {xs : List (E.T e)} {j off : Nat} {cs : List (Cell E.T)} {y : E.T e} (h : putCells e (xs.getD j (E.dflt e)) off cs = some y) : putE e xs j off cs y = xs.set j y := by
 unfold putE
 split
 ·rfl
 ·unfold setE; rw [h]; rfl
section
variable {R : Type} {m : Mem E} {K : AV E → Mem E → Option R} {r : R}
theorem run_need {c : Prop} [d : Decidable c] {k : Mp E} (h : (need c k).run m K = some r) : c ∧ k.run m K = some r := by
 simp only [need, Mp.run] at h
 by_cases hc : c
 ·simp only [hc, if_true] at h; exact ⟨hc, h⟩
 ·simp only [hc, if_false] at h; cases h
theorem run_get {id : Nat} {k : Blk E → Mp E} (h : (Mp.get id k).run m K = some r) : ∃ b, look m id = some b ∧ (k b).run m K = some r := by
 simp only [Mp.run] at h
 split at h
 ·exact ⟨_, ‹_›, h⟩
 ·cases h
theorem run_put {id : Nat} {b : Blk E} {k : Mp E} (h : (Mp.put id b k).run m K = some r) : k.run (setm m id b) K = some r := by
 simpa [Mp.run] using h
theorem run_del {id : Nat} {k : Mp E} (h : (Mp.del id k).run m K = some r) : k.run (delm m id) K = some r := by
 simpa [Mp.run] using h
theorem run_call {x : Cl E} {k : Res E → Mp E} (h : (Mp.call x k).run m K = some r) : ∃ y, x.o = some y ∧ x.w y (fun r => (k r).run m K) = some r := Option.bind_eq_some_iff.1 h
theorem run_info {t : TypeId} {k : TI → Mp E} (h : (info E t k).run m K = some r) : ∃ i, E.info t = some i ∧ (k i).run m K = some r := by
 unfold info at h
 split at h
 ·exact ⟨_, ‹_›, h⟩
 ·cases h
theorem run_a1 {x : AV E} {k : A1 E → Mp E} (h : (a1 x k).run m K = some r) : ∃ a, x = .v (.c a) ∧ (k a).run m K = some r := by
 unfold a1 at h
 split at h
 ·exact ⟨_, rfl, h⟩
 ·cases h
theorem run_scal {x : AV E} {k : Value → Mp E} (h : (scal x k).run m K = some r) : ∃ v, x = .v (.c (.s v)) ∧ (k v).run m K = some r := by
 unfold scal at h
 split at h
 ·exact ⟨_, rfl, h⟩
 ·cases h
theorem run_intA {x : AV E} {k : Int → Mp E} (h : (intA x k).run m K = some r) : ∃ q v, x = .v (.c (.s (.int q v))) ∧ (k v).run m K = some r := by
 unfold intA at h
 split at h
 ·exact ⟨_, _, rfl, h⟩
 ·cases h
end
end Go.B
