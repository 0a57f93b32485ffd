/- What the reckoner's plain operations say of the program's: functions as values; structs compared. -/
import Derived.Test.YtepfpdaehcmblaaBCallA
import Derived.Laws.StructEq
namespace Go.B
open Go Go.RowKit
set_option linter.unusedVariables false
set_option linter.unusedSimpArgs false
variable {E : Env} {P : Program}
section
variable {R : Type} {G : Gh} {w w0 w1 w' : World} {m m' m1 m2 : Mem E} {n : Nat} {K : AV E → Mem E → Option R} {r : R} {Φ Ψ : Nat → Prop} {I0 : Ent} {ts : List (AV E)} {a : Act}
theorem plainV_get : ∀ {as : List (A1 E)} {vs : List Value}, plainV as = some vs → as = vs.map .s
 | [], vs, h => by simp only [plainV] at h; cases h; rfl
 | b :: as, vs, h => by
  cases b with
  | s v =>
   simp only [plainV] at h
   split at h
   ·rename_i us hus; cases h; rw [plainV_get hus]; rfl
   ·cases h
  | _ => simp [plainV] at h
theorem part_plain {e : TypeId} (he : (∃ k, P.underlying e = some (.int k)) ∨ P.underlying e = some .bool ∨ P.underlying e = some .string) {xs : Array Value} {off : Nat} {v : Value} (hx : xs[off]? = some v) (w : World) : (part e xs off).run P w = .ok v w := by
 rcases he with ⟨k, hu⟩ | hu | hu <;> simp [part, isAgg, run_underlying hu, hx]
theorem eqL_sound (d : Nat) (xs ys : Array Value) : ∀ {fs : List Field} {os : List (Nat × Nat)}, EqFs P fs os →
  ∀ {k : Bool → Mp E}, (eqL xs.toList ys.toList os k).run m K = some r → ∃ b, (k b).run m K = some r ∧ ∀ w, (Op.eqFields (d + 1) xs ys fs).run P w = .ok b w
 | [], [], _, k, h => ⟨true, h, fun w => rfl⟩
 | [], _ :: _, h, _, _ => h.elim
 | _ :: _, [], h, _, _ => h.elim
 | f :: fs, (o, q) :: os, hf, k, h => by
  obtain ⟨hn, ho, ht, hf'⟩ := hf
  subst ho
  have key : ∀ {u v : Value} {b : Bool}, ((∃ k, P.underlying f.type = some (.int k)) ∨ P.underlying f.type = some .bool ∨ P.underlying f.type = some .string) → geta xs.toList f.offset = some u → geta ys.toList f.offset = some v → (∀ w, (Op.equalIn (d + 1) f.type u v).run P w = .ok b w) → (eqL xs.toList ys.toList os fun r => k (b && r)).run m K = some r →
    ∃ b, (k b).run m K = some r ∧ ∀ w, (Op.eqFields (d + 1) xs ys (f :: fs)).run P w = .ok b w := fun {u v b} ht hu hv hq h => by
   rw [geta_eq, Array.getElem?_toList] at hu hv
   obtain ⟨c, h, hb⟩ := eqL_sound d xs ys hf' h
   refine ⟨_, h, fun w => ?_⟩
   simp only [Op.eqFields]
   rw [if_pos hn, Sem.run_bind, part_plain ht hu, Result.andThen_ok, Sem.run_bind, part_plain ht hv, Result.andThen_ok, Sem.run_bind, hq, Result.andThen_ok]
   cases b
   ·simp
   ·simp [hb]
  rcases ht with ⟨rfl, k', hu⟩ | ⟨rfl, hu⟩ | ⟨rfl, hu⟩
  ·simp only [eqL] at h
   split at h
   ·rename_i p x q y hx hy
    obtain ⟨hpq, h'⟩ := run_need h
    clear h
    subst hpq
    exact key (.inl ⟨k', hu⟩) hx hy (fun w => by rw [run_equalIn_int w d f.type p k' x y hu]; rfl) h'
   ·cases h
  ·simp only [eqL] at h
   split at h
   ·rename_i x y hx hy
    exact key (.inr (.inl hu)) hx hy (fun w => run_equalIn_bool' w d f.type x y hu) h
   ·cases h
  ·simp only [eqL] at h
   split at h
   ·rename_i x y hx hy
    exact key (.inr (.inr hu)) hx hy (fun w => by rw [run_equalIn_string w d f.type x y hu]; congr 1; by_cases q : x.toList = y.toList <;> simp [q]) h
   ·cases h
theorem eqA_sound (hE : EnvOK E P) {op : BinOp} {t : TypeId} {as bs : List (A1 E)} {k : Value → Mp E} {x y : Array Value} (hx : A1l E G w m n as x) (hy : A1l E G w m n bs y) (h : (eqA op t as bs k).run m K = some r) (xo yo : Operand) :
  ∃ z, (k z).run m K = some r ∧ z.oneCell' = true ∧ (do eqGuard op t xo yo (.agg x) (.agg y); binOp op t (.agg x) (.agg y)).run P w = .ok z w := by
 have vals : ∀ {as : List (A1 E)} {vs : List Value} {x : Array Value}, A1l E G w m n as x → plainV as = some vs → x.toList = vs := fun {as vs x} hx hv => by
  have e := plainV_get hv
  subst e
  apply List.ext_getElem?
  intro j
  by_cases hj : j < vs.length
  ·have h1 := (hx.2 j (.s vs[j]) (by simp [List.getElem?_eq_getElem hj])).1.1
   have hl : j < x.size := by rw [hx.1]; simpa using hj
   rw [Array.getD_eq_getD_getElem?, Array.getElem?_eq_getElem hl] at h1
   rw [Array.getElem?_toList, Array.getElem?_eq_getElem hl, List.getElem?_eq_getElem hj]
   exact congrArg some h1
  ·have : ¬ j < x.toList.length := by have := hx.1; simp at this ⊢; omega
   rw [List.getElem?_eq_none (by omega), List.getElem?_eq_none (by omega)]
 unfold eqA at h
 split at h
 ·rename_i os xs ys hos hxs hys
  have ex := vals hx hxs
  have ey := vals hy hys
  subst ex
  subst ey
  obtain ⟨h1, h2, fs, h3, h4⟩ := hE.eqOK t os hos
  have hf : P.fieldsOf t = fs := by simp [Program.fieldsOf, h3]
  have hg : (eqGuard op t xo yo (.agg x) (.agg y)).run P w = .ok () w := run_eqGuard_agg w op t xo yo x y h2
  have fin : ∀ {b : Bool}, (∀ w, (Op.eqFields 9999 x y fs.toList).run P w = .ok b w) → (Op.equalIn 10000 t (.agg x) (.agg y)).run P w = .ok b w := fun {b} hb => by
   rw [run_equalIn_agg w 9999 t x y (by rw [hf]; exact h3) h1, hf]; exact hb w
  split at h
  ·obtain ⟨b, h, hb⟩ := eqL_sound 9998 x y h4 h
   exact ⟨_, h, rfl, by rw [Sem.run_bind, hg, Result.andThen_ok, run_eql_struct, fin hb]; rfl⟩
  ·obtain ⟨b, h, hb⟩ := eqL_sound 9998 x y h4 h
   exact ⟨_, h, rfl, by rw [Sem.run_bind, hg, Result.andThen_ok, run_neq_struct, fin hb]; rfl⟩
  ·cases h
 ·cases h
theorem roL_get : ∀ (xs : List (Sigma E.T)) (j : Nat) (b : AV E), (roL xs)[j]? = some b → ∃ q, xs[j]? = some q ∧ b = .v (.c (.ip q.1 q.2 0))
 | [], j, b, h => by simp [roL] at h
 | q :: xs, 0, b, h => by simp [roL] at h; exact ⟨q, rfl, h.symm⟩
 | q :: xs, j + 1, b, h => by simpa using roL_get xs j b (by simpa [roL] using h)
theorem roL_len : ∀ (xs : List (Sigma E.T)), (roL xs).length = xs.length
 | [] => rfl
 | q :: xs => by simp [roL, roL_len xs]
theorem capL_get : ∀ {as : List (AV E)} {es : List TypeId} {ids : List (Nat × TypeId)}, capL as es = some ids → ids.length = as.length ∧ ∀ (j : Nat) (p : Nat × TypeId), ids[j]? = some p → as[j]? = some (.v (.c (.bp p.1 0)))
 | as, es, ids, h => by
  unfold capL at h
  split at h
  ·cases h; exact ⟨rfl, fun j p hj => by simp at hj⟩
  ·rename_i id as e es
   split at h
   ·rename_i l hl
    cases h
    obtain ⟨h1, h2⟩ := capL_get hl
    refine ⟨by simp [h1], fun j p hj => ?_⟩
    cases j with
    | zero => simp at hj; subst hj; rfl
    | succ j => simpa using h2 j p (by simpa using hj)
   ·cases h
  ·cases h
 termination_by as => as.length
def AllI (G : Gh) (m : Mem E) (k : Nat) : Prop := G.I k ∨ ∃ id b, look m id = some b ∧ G.fp id k
theorem SeenI.all {s : List Nat} {k : Nat} (h : SeenI G m s k) : AllI G m k := h.imp _root_.id fun ⟨id, _, ⟨b, hb⟩, hk⟩ => ⟨id, b, hb, hk⟩
theorem capQ_rel : ∀ {as : List (A1 E)} {ks : List CK} {cs : List (Cell E.T)}, capQ ks as = some cs → cs.length = as.length ∧ ∀ (j : Nat) (b : A1 E) (c : Cell E.T), as[j]? = some b → cs[j]? = some c → ∀ u, A1r E G w m n b u → Rd E w G.I u c := by
 intro as
 induction as with
 | nil =>
  intro ks cs h
  cases ks with
  | nil => simp only [capQ] at h; cases h; exact ⟨rfl, fun j b c hj => by simp at hj⟩
  | cons q ks => cases q <;> simp [capQ] at h
 | cons b as ih =>
  intro ks cs h
  have step : ∀ {ks : List CK} {c : Cell E.T} {cs' : List (Cell E.T)}, capQ ks as = some cs' → (∀ u, A1r E G w m n b u → Rd E w G.I u c) → (c :: cs').length = (b :: as).length ∧ ∀ (j : Nat) (b' : A1 E) (c' : Cell E.T), (b :: as)[j]? = some b' → (c :: cs')[j]? = some c' → ∀ u, A1r E G w m n b' u → Rd E w G.I u c' :=
   fun {ks c cs'} hq hb => by
    obtain ⟨i1, i2⟩ := ih hq
    refine ⟨by simp [i1], fun j b' c' hj hj' u hu => ?_⟩
    cases j with
    | zero => simp at hj hj'; subst hj; subst hj'; exact hb u hu
    | succ j => exact i2 j b' c' (by simpa using hj) (by simpa using hj') u hu
  unfold capQ at h
  split at h
  ·rename_i h1; cases h1
  ·rename_i h1
   cases h1
   split at h
   ·rename_i hq; cases h
    exact step hq fun u hu => by obtain ⟨rfl, h1⟩ := hu; exact .s h1
   ·cases h
  ·rename_i h1
   cases h1
   split at h
   ·rename_i hq; cases h
    exact step hq fun u hu => by
     obtain ⟨rfl, h1⟩ := hu
     exact .sl (val := fun _ _ => undef) rfl (Nat.le_refl _) (by omega) (fun h => by omega) (fun i j hi => by omega) (fun i j hi => by simp at hi)
   ·cases h
  ·rename_i h1
   cases h1
   split at h
   ·rename_i hq; cases h
    exact step hq fun u hu => hu
   ·cases h
  ·cases h
theorem capV_sound (hE : EnvOK E P) (hM : Mr E w0 Φ I0 G m n w) : ∀ {ids : List (Nat × TypeId)} {k : List (Sigma E.T) → Mp E}, (capV ids k).run m K = some r →
  ∃ xs, (k xs).run m K = some r ∧ xs.length = ids.length ∧ ∀ (j : Nat) (p : Nat × TypeId) (q : Sigma E.T), ids[j]? = some p → xs[j]? = some q → (∃ cs, look m p.1 = some (.box cs)) ∧ ElemAt E w (AllI G m) ⟨G.bk p.1, 0, none⟩ q.1 q.2
 | [], k, h => ⟨[], h, rfl, fun j p q hj => by simp at hj⟩
 | p :: ids, k, h => by
  simp only [capV] at h
  obtain ⟨b, hb, h⟩ := run_get h
  split at h
  ·rename_i as
   obtain ⟨i, hi, h⟩ := run_info h
   split at h
   ·rename_i cs hcs
    split at h
    ·rename_i x hx
     split at h
     ·rename_i hlen
      obtain ⟨xs, h, h1, h2⟩ := capV_sound hE hM h
      refine ⟨_, h, by simp [h1], fun j p' q hj hq => ?_⟩
      cases j with
      | zero =>
       simp at hj hq
       subst hj
       subst hq
       refine ⟨⟨as, hb⟩, fun y hy => ?_⟩
       obtain ⟨⟨arr, ty, a1, a2, a3⟩, a4⟩ := hM.bl p.1 _ hb
       obtain ⟨c1, c2⟩ := capQ_rel (G := G) (w := w) (m := m) (n := n) hcs
       have hsz : cs.length = i.size := by simpa using hlen
       rw [hE.szEq hi] at hy
       have hya : y < as.length := by omega
       have hyr : y < arr.size := by omega
       have hyc : y < cs.length := by omega
       obtain ⟨d1, d2⟩ := a3 y _ (List.getElem?_eq_getElem hya)
       refine ⟨.inr ⟨p.1, _, hb, a4⟩, arr.getD y undef, ?_, ?_⟩
       ·rw [add_plain]
        simp [World.cell?, a1, Array.getD_eq_getD_getElem?, hyr]
       ·have e1 : cellAt E p.2 x y = cs[y] := by
         simp only [cellAt, hE.make _ _ _ hx, List.getD_eq_getElem?_getD, List.getElem?_eq_getElem hyc, Option.getD_some]
        rw [e1]
        exact (c2 y _ _ (List.getElem?_eq_getElem hya) (List.getElem?_eq_getElem hyc) _ d1).more fun k hk => .inl hk
      | succ j => exact h2 j p' q (by simpa using hj) (by simpa using hq)
     ·cases h
    ·cases h
   ·cases h
  ·cases h
theorem handKs_sound (hE : EnvOK E P) (hM : Mr E w0 Φ I0 G m n w) : ∀ {as : List (AV E)} {k : List (P2 E) → Mp E}, (handKs as k).run m K = some r →
  ∃ ps, (k ps).run m K = some r ∧ ps.length = as.length ∧ ∀ (j : Nat) (b : AV E) (p : P2 E), as[j]? = some b → ps[j]? = some p → ∀ u, AVr E G w m n b u → (∀ cs, p ≠ .v (.ptr cs)) ∧ P2r E G w m (AllI G m) b p u
 | [], k, h => ⟨[], h, rfl, fun j b c hj => by simp at hj⟩
 | x :: as, k, h => by
  simp only [handKs] at h
  have fin : ∀ {p : P2 E}, (∀ u, AVr E G w m n x u → (∀ cs, p ≠ .v (.ptr cs)) ∧ P2r E G w m (AllI G m) x p u) → (handKs as fun ps => k (p :: ps)).run m K = some r →
    ∃ ps, (k ps).run m K = some r ∧ ps.length = (x :: as).length ∧ ∀ (j : Nat) (b : AV E) (p : P2 E), (x :: as)[j]? = some b → ps[j]? = some p → ∀ u, AVr E G w m n b u → (∀ cs, p ≠ .v (.ptr cs)) ∧ P2r E G w m (AllI G m) b p u := fun {p} hp h => by
   obtain ⟨ps, h, h1, h2⟩ := handKs_sound hE hM h
   refine ⟨_, h, by simp [h1], fun j b q hj hq => ?_⟩
   cases j with
   | zero => simp at hj hq; subst hj; subst hq; exact hp
   | succ j => exact h2 j b q (by simpa using hj) (by simpa using hq)
  unfold handK at h
  split at h
  ·rename_i g ids
   obtain ⟨xs, h, h1, h2⟩ := capV_sound hE hM h
   refine fin (fun u hu => ⟨fun cs e => (by cases e), ?_⟩) h
   obtain ⟨_, _, lb, e1, e2, e3⟩ := hu
   refine ⟨lb, e1, by rw [e2, h1], fun j q hq => ?_⟩
   have hjl : j < ids.length := by rw [← h1]; exact (List.getElem?_eq_some_iff.1 hq).1
   obtain ⟨⟨cs, hc⟩, he⟩ := h2 j _ q (List.getElem?_eq_getElem hjl) hq
   exact ⟨_, by rw [e3 j _ cs (List.getElem?_eq_getElem hjl) hc]; rfl, he⟩
  ·cases h
  ·rename_i b hb1 hb2
   obtain ⟨p, h, hp, _, hq⟩ := handIn_sound hM h
   refine fin (fun u hu => ⟨fun cs e => ?_, (hp u hu).more fun k hk => hk.all⟩) h
   subst e
   obtain ⟨id, bs, e1, _⟩ := hp u hu
   cases e1
   exact hb2 _ _ rfl
  ·cases h
theorem callK_sound [GlobOK E w0 Φ I0] (hE : EnvOK E P) {f : FuncId} {en : Entry E} (hC : SoundC E P f en.F) {G : Gh} {m : Mem E} {n : Nat} (hM : Mr E w0 Φ I0 G m n w) (hT : Tr E G ts m n a w) {as : List (AV E)} {vals : Array Value} (hlen : vals.size = as.length)
  (has : ∀ (j : Nat) (b : AV E), as[j]? = some b → AVr E G w m n b (vals.getD j undef)) (h : (callK n en as).run m K = some r) {fin : Value → World → Prop}
  (hfin : ∀ v m' G' u w', K v m' = some r → Mr E w0 Φ I0 G' m' (n + wide) w' → Tr E G' ts m' (n + wide) a w' → AVr E G' w' m' (n + wide) v u → fin u w') :
  Calls P f vals w fun e w' => ∃ u, e = .returned u ∧ fin u w' := by
 unfold callK at h
 obtain ⟨ps, h, hpl, hps⟩ := handKs_sound hE hM h
 obtain ⟨ans, hans, h⟩ := run_call h
 obtain ⟨res, hw, hC⟩ := hC ps ans hans
 rw [hw] at h
 have arg : ∀ (j : Nat) (p : P2 E), ps[j]? = some p → ∃ b, as[j]? = some b ∧ (∀ cs, p ≠ .v (.ptr cs)) ∧ P2r E G w m (AllI G m) b p (vals.getD j undef) := fun j p hj => by
  have hjl : j < as.length := by rw [← hpl]; exact (List.getElem?_eq_some_iff.1 hj).1
  exact ⟨_, List.getElem?_eq_getElem hjl, hps j _ p (List.getElem?_eq_getElem hjl) hj _ (has j _ (List.getElem?_eq_getElem hjl))⟩
 have hA : ArgsR E w (AllI G m) (fun _ => False) (fun _ => 0) (fun _ _ _ => False) ps vals := by
  refine ⟨by rw [hlen, hpl], fun j c hj => ?_, fun j cs hj => ?_, fun j cs hj => ?_, fun j e x hj => ?_, fun j f xs hj => ?_, fun j j' cs cs' hj hj' hgj => ?_, fun _ _ _ h => h.elim, fun _ _ _ _ _ h => h.elim, fun _ _ _ _ _ h => h⟩
  ·obtain ⟨b, _, _, h1⟩ := arg j _ hj; exact CellR.of h1
  ·obtain ⟨b, _, h1, _⟩ := arg j _ hj; exact absurd rfl (h1 cs)
  ·obtain ⟨b, _, _, arr, h1, h2, h3⟩ := arg j _ hj; exact ⟨arr, h1, h2, fun l c hl => CellR.of (h3 l c hl)⟩
  ·obtain ⟨b, _, _, h1⟩ := arg j _ hj; exact h1
  ·obtain ⟨b, _, _, h1⟩ := arg j _ hj; exact h1
  ·obtain ⟨b, _, h1, _⟩ := arg j _ hj; exact absurd rfl (h1 cs)
 refine (hC vals w (AllI G m) (fun _ => False) (fun _ => 0) _ (fun k hk => ⟨hk.elim (hM.il k) fun ⟨id, b, hb, hk⟩ => (hM.lo id b hb k hk).2.1, fun h => h⟩) (hM.glob hE fun k hk => .inl hk) (fun k hk => hk.elim) hA).mono fun e w' he => ?_
 obtain ⟨v, I', fp, F', rfl, hP⟩ := he
 refine ⟨v, rfl, ?_⟩
 split at h
 ·rename_i hfr
  have hM1 : Mr E w0 Φ I0 G m n w' := hM.grow hP.fr (fun k hk => hk.elim)
  obtain ⟨b, m3, G3, h3, hM3, hmle3, hI3, hrel⟩ := getRV_sound hM1 hP.rv (.inl hfr) (fun i j k hk => by
   obtain ⟨q1, q2, q3⟩ := hP.fps i j k hk
   have q1 : w.heap.size ≤ k := q1.elim _root_.id fun ⟨_, _, h⟩ => h.elim
   refine ⟨.inl (Nat.le_trans hM.fr.size q1), q2, fun hI => absurd (hM.il k hI) (Nat.not_lt.2 q1), fun j' b hj' hfp => absurd (hM.lo j' b hj' k hfp).2.1 (Nat.not_lt.2 q1)⟩) hP.dis h
  exact hfin b m3 G3 v w' h3 hM3 (hT.keep hmle3 (Nat.le_add_right _ _) fun k hk => ⟨hI3 k hk, hP.fr.block k (hM.il k hk) fun h => h⟩) hrel
 ·cases h
end
end Go.B
