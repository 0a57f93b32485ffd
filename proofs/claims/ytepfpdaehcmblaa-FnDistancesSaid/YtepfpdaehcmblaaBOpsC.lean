/- What the reckoner's plain operations say of the program's: copy. -/
import Derived.Test.YtepfpdaehcmblaaBOpsB
import Derived.Laws.IdiomCopy
namespace Go.B
open Go Go.RowKit
set_option linter.unusedVariables false
set_option linter.unusedSimpArgs false
variable {E : Env} {P : Program}
section
variable {R : Type} {G : Gh} {w w0 w1 : World} {m m' m1 m2 : Mem E} {n : Nat} {K : AV E → Mem E → Option R} {r : R} {Φ Ψ : Nat → Prop} {I0 : Ent} {ts : List (AV E)} {a : Act}
theorem setls_seg {α : Type} (l : List α) (o : Nat) (cs : List α) (h : o + cs.length ≤ l.length) : l.take o ++ cs ++ l.drop (o + cs.length) = setls l o cs := by
 apply List.ext_getElem?
 intro k
 rw [setls_get _ _ _ _ h]
 simp only [List.getElem?_append, List.length_append, List.length_take, List.getElem?_take, List.getElem?_drop]
 by_cases h1 : k < o
 ·rw [if_pos (by omega), if_pos (by omega), if_pos h1, if_neg (by omega)]
 ·by_cases h2 : k < o + cs.length
  ·rw [if_pos (by omega), if_neg (by omega), if_pos (by omega)]
   congr 1; omega
  ·rw [if_neg (by omega), if_neg (by omega)]
   congr 1; omega
theorem run_copyL (w : World) (dT sT ty elem : TypeId) (g o dLen dCap : Nat) (ad : Addr) (sLen sCap : Nat) (cur : Array Value) (t : TypeId) (fz : Nat × Nat) (cs : List Value)
  (hu : P.underlying dT = some (.slice elem)) (hs : (P.info? elem).map (·.size) = some 1)
  (hg : w.heap[g]? = some (.cells cur t fz)) (hfz : Loose (cur, fz)) (hn : cs.length = Nat.min sLen dLen)
  (hsrc : ∀ j v, cs[j]? = some v → w.cell? (ad.add j) = some v) (hfit : o + cs.length ≤ cur.size) (h1 : ∀ v ∈ cs, v.oneCell' = true) :
  (Builtin.copy_ #[dT, sT] ty #[.slice (some ⟨g, o, none⟩) dLen dCap, .slice (some ad) sLen sCap]).run P w =
   .ok (goInt cs.length) (w.setRow g (setls cur.toList o cs).toArray) := by
 have hl := run_loadCells_list (P := P) w ad cs hsrc
 have hst := run_storeCells_atL P g o t fz cs 0 cur w hg hfz (by simpa using hfit) h1
 rw [Nat.add_zero, setls_seg _ _ _ (by simpa using hfit)] at hst
 cases hq : P.info? elem with
 | none => simp [hq] at hs
 | some i =>
  have hi : i.size = 1 := by simpa [hq] using hs
  simp [Builtin.copy_, run_underlying hu, Builtin.lenOf, Builtin.firstCells, sizeOf, typeInfo, hq, hi, ← hn, hl, hst]
theorem rowOf_lies (hM : Mr E w0 Φ I0 G m n w) {q : A1 E} {x : Value} (hq : A1r E G w m n q x) {k : (e : TypeId) → List (E.T e) → Mp E} (h : (rowOf q k).run m K = some r) :
  ∃ (e : TypeId) (ys : List (E.T e)) (news : List Value), (k e ys).run m K = some r ∧ Lies w x ys.length (E.sz e) news ∧
   ∀ x' y v, x' < ys.length → y < E.sz e → cellAt E e (ys.getD x' (E.dflt e)) y = .s v → news.getD (x' * E.sz e + y) undef = v ∧ v.oneCell' = true := by
 have inS : ∀ {I F : Nat → Prop} {d : Bool} {u v : Value}, In E w I d F u (.s v) → u = v ∧ v.oneCell' = true := fun {I F d u v} h => by
  unfold In at h
  split at h
  ·cases h with | s h => exact ⟨rfl, h⟩
  ·exact h.to_s
 unfold rowOf at h
 split at h
 ·obtain ⟨news, hl, hin⟩ := imm_lies (G := G) hq
  exact ⟨_, _, news, h, hl, fun x' y v hx hy hv => by have := hin x' y hx hy; rw [hv] at this; exact this.to_s⟩
 ·obtain ⟨b, hb, h⟩ := run_get h
  split at h
  ·obtain ⟨news, F, hl, hin, _, _⟩ := row_lies hM hb
   have hx := hq.2.2 _ _ _ hb
   exact ⟨_, _, news, h, hx ▸ hl, fun x' y v hx hy hv => by have := hin x' y hx hy; rw [hv] at this; exact inS this⟩
  ·cases h
 ·rename_i id lo kk
  obtain ⟨b, hb, h⟩ := run_get h
  split at h
  ·rename_i d e ys
   obtain ⟨hlo, hx⟩ := hq.2.2 _ _ _ hb
   obtain ⟨news, F, hl, hin, _, _⟩ := row_lies hM hb
   have hwl := win_lies hl hlo (fun A c hv => by
    obtain ⟨inner', F', ho, _⟩ := hM.bl id _ hb
    obtain ⟨A', cap, hv', hle, _⟩ := ownsG_form ho
    rw [hv] at hv'; cases hv'; exact hle)
   have hkl : ((ys.drop lo).take kk).length = kk := by simp; omega
   refine ⟨_, _, _, h, by rw [hx, hkl]; exact hwl, fun x' y v hx' hy hv => ?_⟩
   rw [hkl] at hx'
   have e1 : ((ys.drop lo).take kk).getD x' (E.dflt e) = ys.getD (lo + x') (E.dflt e) := by
    simp only [List.getD_eq_getElem?_getD, List.getElem?_take, List.getElem?_drop]
    rw [if_pos hx']
   have e2 : ((news.drop (lo * E.sz e)).take (kk * E.sz e)).getD (x' * E.sz e + y) undef = news.getD ((lo + x') * E.sz e + y) undef := by
    simp only [List.getD_eq_getElem?_getD, List.getElem?_take, List.getElem?_drop]
    rw [if_pos (lt_of_pair hx' hy)]
    congr 2
    rw [Nat.add_mul]; omega
   rw [e1] at hv
   rw [e2]
   have := hin (lo + x') y (by omega) hy
   rw [hv] at this
   exact inS this
  ·cases h
 ·cases h
theorem copyL_len {α : Type} (xs : List α) (lo k : Nat) (ys : List α) (h : lo + k ≤ xs.length) : (copyL xs lo k ys).length = xs.length := by
 simp only [copyL, List.length_append, List.length_take, List.length_drop]; omega
theorem copyL_get {α : Type} (xs : List α) (lo k : Nat) (ys : List α) (h : lo + k ≤ xs.length) (j : Nat) : (copyL xs lo k ys)[j]? = if lo ≤ j ∧ j < lo + min k ys.length then ys[j - lo]? else xs[j]? := by
 have e : ys.take k = ys.take (min k ys.length) := by
  rw [List.take_eq_take_iff]; omega
 have hl : (ys.take (min k ys.length)).length = min k ys.length := by rw [List.length_take]; omega
 have hs := setls_seg xs lo (ys.take (min k ys.length)) (by rw [hl]; omega)
 rw [hl] at hs
 simp only [copyL]
 rw [e, hs, setls_get _ _ _ _ (by rw [hl]; omega), hl]
 split
 ·rw [List.getElem?_take, if_pos (by omega)]
 ·rfl
theorem copyA_sound (hE : EnvOK E P) (hM : Mr E w0 Φ I0 G m n w) (hT : Tr E G ts m n a w) {t t' e : TypeId} {i j : TI} (hi : E.info t = some i) (hd : i.desc = .slice e) (hj : E.info e = some j)
  {p q : A1 E} {u x : Value} (hp : A1r E G w m n p u) (hq : A1r E G w m n q x) (h : (copyA j e p q).run m K = some r) (ty : TypeId) :
  ∃ v' m' u' w' G', K v' m' = some r ∧ (Builtin.copy_ #[t, t'] ty #[u, x]).run P w = .ok u' w' ∧ Mr E w0 Φ I0 G' m' (n + wide) w' ∧ Tr E G' ts m' (n + wide) a w' ∧ AVr E G' w' m' (n + wide) v' u' := by
 have hnn : n ≤ n + wide := Nat.le_add_right _ _
 unfold copyA at h
 split at h
 case h_2 => cases h
 rename_i id lo k
 obtain ⟨e', ys, news, h, hl, hcell⟩ := rowOf_lies hM hq h
 split at h
 case isFalse => cases h
 rename_i he
 subst he
 split at h
 case isFalse => cases h
 rename_i hfs
 obtain ⟨hfl, hsz1⟩ := hfs
 obtain ⟨b, hb, h⟩ := run_get h
 split at h
 case h_2 => cases h
 rename_i d e0 xs
 split at h
 case isFalse => cases h
 rename_i he0
 subst he0
 have h' := run_put h
 obtain ⟨hlo, hu⟩ := hp.2.2 _ _ _ hb
 obtain ⟨inner, F0, ho, hbk, hf, hdj, hin⟩ := hM.bl id _ hb
 have hsz : E.sz e0 = 1 := by rw [hE.szEq hj, hsz1]
 obtain ⟨A, cap, hhd, hle, hmx, hA, hA2⟩ := ownsG_form ho
 have hut : P.underlying t = some (.slice e0) := by rw [← hd]; exact (hE.info t i hi).1
 obtain ⟨_, ⟨ij, hij, hsize, _, _⟩, _, _⟩ := hE.info e0 j hj
 have hsi : (P.info? e0).map (·.size) = some 1 := by rw [hij]; simp [hsize, hsz1]
 obtain ⟨⟨A', c', hx, hA', hnews⟩, hnl, hone⟩ := hl
 rw [hsz, Nat.mul_one] at hnl
 have hlen := copyL_len xs lo k ys hlo
 have hnl2 : (news.take (min k ys.length)).length = min k ys.length := by simp; omega
 have inS : ∀ {I F : Nat → Prop} {d : Bool} {u v : Value}, In E w I d F u (.s v) → u = v ∧ v.oneCell' = true := fun {I F d u v} h => by
  unfold In at h
  split at h
  ·cases h with | s h => exact ⟨rfl, h⟩
  ·exact h.to_s
 by_cases hc : min k ys.length = 0
 ·
  have e1 : copyL xs lo k ys = xs := by
   apply List.ext_getElem?
   intro y
   rw [copyL_get _ _ _ _ hlo, hc, if_neg (by omega)]
  have e2 : (Builtin.copy_ #[t, t'] ty #[u, x]).run P w = .ok (goInt 0) w := by
   rw [hu, hhd, hx]
   exact run_copy_none (P := P) w t t' ty e0 _ _ k _ ys.length c' hut hsi (by rw [Nat.min_comm] at hc; exact hc)
  rw [e1] at h'
  have q1 : ∀ k, (G.hd id).ownBlock = some k → (w0.heap.size ≤ k ∨ Φ k) ∧ ¬ G.I k ∧ ∀ j b, look m j = some b → j ≠ id → ¬ G.fp j k := fun k hk => by
   have h1 := hM.lo id _ hb k (hbk k hk)
   exact ⟨h1.1, h1.2.2, fun j b hj hne hk' => hM.dj id j _ b hb hj (Ne.symm hne) k (hbk k hk) hk'⟩
  have q2 : ∀ x y k, x < xs.length → y < E.sz e0 → F0 x y k → (w0.heap.size ≤ k ∨ Φ k) ∧ k < w.heap.size ∧ ¬ G.I k ∧ ¬ (G.hd id).ownBlock = some k ∧ ∀ j b, look m j = some b → j ≠ id → ¬ G.fp j k := fun x y k hx hy hk => by
   have h1 := hf x y k hx hy hk
   have h2 := hM.lo id _ hb k h1.1
   exact ⟨h2.1, h2.2.1, h2.2.2, h1.2, fun j b hj hne hk' => hM.dj id j _ b hb hj (Ne.symm hne) k h1.1 hk'⟩
  obtain ⟨G', g1, g2, g3, g4⟩ := row_core (Ψ := fun k => (G.hd id).ownBlock = some k) (n' := n + wide) (F := F0) (inner := inner) (d := d) (hM.x id) (Nat.lt_of_lt_of_le (hM.lt id _ hb) hnn) hnn (Frame.refl _ _) q1 ho (fun k hk => .inr hk) (fun x y hx hy => give_of_in (hin x y hx hy)) q2 hdj (fun I' Fp => Mle.row (G := { G with I := I' }) hb rfl 0 Fp)
  refine ⟨_, _, _, _, G', h', e2, g1, hT.keep g2 hnn g4, ?_⟩
  rw [hc]; exact ⟨rfl, rfl⟩
 ·have hA1 := hA (by omega)
  obtain ⟨ad, rfl⟩ := Option.isSome_iff_exists.1 hA1
  obtain ⟨hob, had⟩ := hA2 ad rfl
  generalize hg : ad.block = g at hob had
  subst had
  have hA1' := hA' (by omega)
  obtain ⟨ad', rfl⟩ := Option.isSome_iff_exists.1 hA1'
  have hfg : G.fp id g := hbk g hob
  have ho' := ho
  rw [hhd] at ho'
  obtain ⟨cur, fz, c1, c2, c3, c4⟩ := ownsG_set ho' (o := lo) (vs := news.take (min k ys.length)) (by rw [hnl2, hsz]; omega)
  have hux : u = .slice (some ⟨g, lo, none⟩) k (cap - lo) := by
   rw [hu, hhd, hsz]
   simp only [winV]
   rw [if_neg (by omega)]
   by_cases h0 : lo = 0 <;> simp [Addr.add, h0]
  have hrun := run_copyL (P := P) w t t' ty e0 g lo k (cap - lo) ad' ys.length c' cur e0 fz (news.take (min k ys.length)) hut hsi c1 c2 (by rw [hnl2, Nat.min_comm]) (fun y v hy => by
   rw [List.getElem?_take] at hy
   split at hy
   ·exact hnews y v hy
   ·cases hy) c3 (fun v hv => hone v (List.mem_of_mem_take hv))
  rw [hnl2] at hrun
  have hlo' := hM.lo id _ hb g hfg
  have hcells : ∀ x y, x < (copyL xs lo k ys).length → y < E.sz e0 → ∃ v, v.oneCell' = true ∧ (setls inner lo (news.take (min k ys.length))).getD (x * E.sz e0 + y) undef = v ∧ cellAt E e0 ((copyL xs lo k ys).getD x (E.dflt e0)) y = .s v := fun x y hx hy => by
   rw [hlen] at hx
   have hy0 : y = 0 := by omega
   subst hy0
   obtain ⟨v, hv⟩ := flat_cell hE hj hfl ((copyL xs lo k ys).getD x (E.dflt e0)) 0
   have hil : inner.length = xs.length := by rw [ho.1, hsz, Nat.mul_one]
   have e1 : (setls inner lo (news.take (min k ys.length))).getD (x * E.sz e0 + 0) undef = if lo ≤ x ∧ x < lo + min k ys.length then news.getD (x - lo) undef else inner.getD x undef := by
    rw [hsz]
    simp only [Nat.mul_one, Nat.add_zero, List.getD_eq_getElem?_getD]
    rw [setls_get _ _ _ _ (by rw [hnl2, hil]; omega), hnl2]
    split
    ·rw [List.getElem?_take, if_pos (by omega)]
    ·rfl
   have e2 : (copyL xs lo k ys).getD x (E.dflt e0) = if lo ≤ x ∧ x < lo + min k ys.length then ys.getD (x - lo) (E.dflt e0) else xs.getD x (E.dflt e0) := by
    simp only [List.getD_eq_getElem?_getD]
    rw [copyL_get _ _ _ _ hlo]
    split <;> rfl
   rw [e1]
   rw [e2] at hv
   rw [e2]
   by_cases hr : lo ≤ x ∧ x < lo + min k ys.length
   ·simp only [if_pos hr] at hv ⊢
    have := hcell (x - lo) 0 v (by omega) (by omega) hv
    rw [hsz, Nat.mul_one, Nat.add_zero] at this
    exact ⟨v, this.2, this.1, hv⟩
   ·simp only [if_neg hr] at hv ⊢
    have := hin x 0 hx (by omega)
    rw [hv] at this
    have := inS this
    rw [hsz, Nat.mul_one, Nat.add_zero] at this
    exact ⟨v, this.2, this.1, hv⟩
  obtain ⟨G', r1, r2, r3, r4⟩ := row_core (id := id) (n' := n + wide) (d := d) (F := fun _ _ _ => False) (Ψ := fun k => k = g) (xs := copyL xs lo k ys) (v := G.hd id) (inner := setls inner lo (news.take (min k ys.length))) (hM.x id) (Nat.lt_of_lt_of_le (hM.lt id _ hb) hnn) hnn (setRow_frame w g (setls cur.toList lo (news.take (min k ys.length))).toArray)
   (by rintro k rfl; exact ⟨hlo'.1, hlo'.2.2, fun j b hj hne hk => hM.dj id j _ b hb hj (Ne.symm hne) _ hfg hk⟩) (by rw [hlen, hhd]; exact c4) (fun k hk => by rw [hob] at hk; injection hk with hk; exact .inr hk.symm)
   (fun x y hx hy => by
    obtain ⟨v, h1, h2, h3⟩ := hcells x y hx hy
    rw [h2, h3]; exact give_s h1) (fun _ _ _ _ _ hk => hk.elim) (fun _ _ _ _ _ _ _ _ _ hk => hk.elim) (fun I' Fp => Mle.row (G := { G with I := I' }) hb hlen 0 Fp)
  refine ⟨_, _, _, _, G', h', by rw [hux, hx]; exact hrun, r1, hT.keep r2 hnn r4, ?_⟩
  exact ⟨rfl, rfl⟩
theorem row_win (hM : Mr E w0 Φ I0 G m n w) {id : Nat} {d : Bool} {e : TypeId} {xs : List (E.T e)} {u : Value} (h : A1r E G w m n (.row id) u) (hb : look m id = some (.row d e xs)) : A1r E G w m n (.win id 0 xs.length) u := by
 obtain ⟨h1, h2, h3⟩ := h
 refine ⟨h1, h2, fun d' e' xs' hl => ?_⟩
 rw [hb] at hl; cases hl
 refine ⟨by omega, ?_⟩
 rw [h3 _ _ _ hb]
 obtain ⟨inner, F, ho, _⟩ := hM.bl id _ hb
 obtain ⟨A, cap, hv, _, _, _, hA⟩ := ownsG_form ho
 rw [hv]
 simp only [winV, Nat.sub_zero]
 congr 1
 split
 ·rfl
 ·cases A with
  | none => rfl
  | some ad =>
   obtain ⟨_, h5⟩ := hA ad rfl
   rw [h5]
   simp only [Option.map_some, Nat.zero_mul, add_plain]
theorem copyR_sound (hE : EnvOK E P) (hM : Mr E w0 Φ I0 G m n w) (hT : Tr E G ts m n a w) {t t' e : TypeId} {i j : TI} (hi : E.info t = some i) (hd : i.desc = .slice e) (hj : E.info e = some j)
  {p q : A1 E} {u x : Value} (hp : A1r E G w m n p u) (hq : A1r E G w m n q x) (h : (copyR j e p q).run m K = some r) (ty : TypeId) :
  ∃ v' m' u' w' G', K v' m' = some r ∧ (Builtin.copy_ #[t, t'] ty #[u, x]).run P w = .ok u' w' ∧ Mr E w0 Φ I0 G' m' (n + wide) w' ∧ Tr E G' ts m' (n + wide) a w' ∧ AVr E G' w' m' (n + wide) v' u' := by
 unfold copyR at h
 split at h
 ·rename_i id
  obtain ⟨b, hb, h⟩ := run_get h
  split at h
  ·exact copyA_sound hE hM hT hi hd hj (row_win hM hp hb) hq h ty
  ·cases h
 ·exact copyA_sound hE hM hT hi hd hj hp hq h ty
end
end Go.B
