/- A call that writes a row in a row of the caller's own. -/
import Derived.Test.YtepfpdaehcmblaaBWr
namespace Go.B
open Go Go.RowKit
set_option linter.unusedVariables false
set_option linter.unusedSimpArgs false
variable {E : Env} {P : Program}
section
variable {R : Type} {G : Gh} {w w0 w1 w' : World} {m m' m1 m2 : Mem E} {n : Nat} {K : AV E → Mem E → Option R} {r : R} {Φ Ψ : Nat → Prop} {I0 : Ent} {ts : List (AV E)} {a : Act} {W : List (Nat × Nat)}
def PdOK (E : Env) (G : Gh) (m : Mem E) (a : Act) (w : World) (p : Pd) : Prop :=
 ∃ e xs, look m p.id = some (.row true e xs) ∧ p.i < xs.length ∧ p.off < E.sz e ∧ ∃ g L cap, G.hd p.id = .slice (some ⟨g, 0, none⟩) L cap ∧ w.cell? ⟨g, p.i * E.sz e + p.off, none⟩ = some (a.tmps.getD p.t undef)
theorem handPs_sound {p : Nat} {c : Cell E.T} : ∀ {as : List (AV E)} {j0 : Nat} {k : List (P2 E) → Mp E}, (handPs p c j0 as k).run m K = some r →
  ∃ ps, (k ps).run m K = some r ∧ ps.length = as.length ∧ ∀ (j : Nat) (x : AV E) (q : P2 E), as[j]? = some x → ps[j]? = some q → (j0 + j = p ∧ q = .v (.c c)) ∨ (j0 + j ≠ p ∧ ∃ v, x = .v (.c (.s v)) ∧ q = .v (.c (.s v)))
 | [], j0, k, h => ⟨[], h, rfl, fun j x q hj => by simp at hj⟩
 | x :: as, j0, k, h => by
  have rest : ∀ (q : P2 E), ((j0 = p ∧ q = .v (.c c)) ∨ (j0 ≠ p ∧ ∃ v, x = .v (.c (.s v)) ∧ q = .v (.c (.s v)))) → (handPs p c (j0 + 1) as fun ps => k (q :: ps)).run m K = some r →
    ∃ ps, (k ps).run m K = some r ∧ ps.length = (x :: as).length ∧ ∀ (j : Nat) (y : AV E) (q : P2 E), (x :: as)[j]? = some y → ps[j]? = some q → (j0 + j = p ∧ q = .v (.c c)) ∨ (j0 + j ≠ p ∧ ∃ v, y = .v (.c (.s v)) ∧ q = .v (.c (.s v))) := fun q hq h => by
   obtain ⟨ps, h1, h2, h3⟩ := handPs_sound (as := as) h
   refine ⟨q :: ps, h1, by simp [h2], fun j y q' hj hj' => ?_⟩
   cases j with
   | zero => simp at hj hj'; subst hj; subst hj'; simpa using hq
   | succ j =>
    have := h3 j y q' (by simpa using hj) (by simpa using hj')
    rwa [Nat.add_assoc, Nat.add_comm 1 j] at this
  cases hb : Nat.beq j0 p with
  | true =>
   simp only [handPs, hb] at h
   exact rest _ (.inl ⟨Nat.eq_of_beq_eq_true hb, rfl⟩) h
  | false =>
   have hne := Nat.ne_of_beq_eq_false hb
   unfold handPs at h
   rw [hb] at h
   split at h
   ·rename_i h1; cases h1
   ·rename_i v _; exact rest _ (.inr ⟨hne, v, rfl, rfl⟩) h
   ·cases h
theorem callP_sound [GlobOK E w0 Φ I0] (hE : EnvOK E P) {f : FuncId} {en : Entry E} (hC : SoundC E P f en.F) {G : Gh} {m : Mem E} {n : Nat} (hM : Mr E w0 Φ I0 G m n w) (hT : Tr E G ts m n a w) {as : List (AV E)} {vals : Array Value} (hlen : vals.size = as.length)
  {q : Nat} {pd : Pd} (hq : q < as.length) (hqv : vals.getD q undef = a.tmps.getD pd.t undef) (hpd : PdOK E G m a w pd)
  (has : ∀ (j : Nat) (b : AV E), as[j]? = some b → AVr E G w m n b (vals.getD j undef)) (h : (callP n en as q pd).run m K = some r) {fin : Value → World → Prop}
  (hfin : ∀ v m' G' u w', K v m' = some r → Mr E w0 Φ I0 G' m' (n + wide) w' → Tr E G' ts m' (n + wide) a w' → AVr E G' w' m' (n + wide) v u → fin u w') :
  Calls P f vals w fun e w' => ∃ u, e = .returned u ∧ fin u w' := by
 obtain ⟨e0, xs, hlk, hix, hoff, g, L, cap, hhd, hcell⟩ := hpd
 unfold callP at h
 obtain ⟨b, hb, h⟩ := run_get h
 rw [hlk] at hb; cases hb
 simp only at h
 split at h
 case h_2 => cases h
 rename_i e ys hc
 rw [geta_eq] at hc
 obtain ⟨ps, h, hpl, hps⟩ := handPs_sound h
 obtain ⟨ans, hans, h⟩ := run_call h
 obtain ⟨res, hw, hC⟩ := hC ps ans hans
 rw [hw] at h
 split at h
 case h_2 => cases h
 rename_i e' ys' hfr hupd
 rw [geta_eq] at hupd
 split at h
 case h_2 => cases h
 rename_i x hx
 rw [putE_eq hx] at h
 have h := run_put h
 have hxc := hE.make _ _ _ hx
 obtain ⟨inner, Fo, ho, hbk, hf, hd, hr⟩ : Top E w G.I true (G.fp pd.id) (G.hd pd.id) e0 xs := hM.bl pd.id _ hlk
 obtain ⟨g', cap', hv', hle, hcell'⟩ := ownsG_cell ho (pd.i * E.sz e0 + pd.off) (lt_of_pair hix hoff)
 rw [hhd] at hv'
 injection hv' with h1 h2 h3
 cases h1
 rw [add_plain] at hcell'
 rw [hcell] at hcell'
 have hval : a.tmps.getD pd.t undef = inner.getD (pd.i * E.sz e0 + pd.off) undef := Option.some.inj hcell'
 have hca : cellAt E e0 (xs.getD pd.i (E.dflt e0)) pd.off = .sl e ys := by simp only [cellAt, List.getD_eq_getElem?_getD] at hc ⊢; rw [hc]; rfl
 have how : Ow E w (Fo pd.i pd.off) (a.tmps.getD pd.t undef) (.sl e ys) := by
  have := hr pd.i pd.off hix hoff
  unfold In at this
  rw [if_pos rfl, hca, ← hval] at this
  exact this
 let Φc : Nat → Prop := Fo pd.i pd.off
 let F : Nat → Nat → Nat → Prop := fun j l k => j = q ∧ l = 0 ∧ Φc k
 have hΦl : ∀ k, Φc k → G.fp pd.id k ∧ (G.hd pd.id).ownBlock ≠ some k := fun k hk => hf pd.i pd.off k hix hoff hk
 have hIc : ∀ k, G.I k → k < w.heap.size ∧ ¬ Φc k := fun k hk => ⟨hM.il k hk, fun h => (hM.lo pd.id _ hlk k (hΦl k h).1).2.2 hk⟩
 have arg : ∀ (j : Nat) (p : P2 E), ps[j]? = some p → (j = q ∧ p = .v (.c (.wr e ys))) ∨ (j ≠ q ∧ ∃ v, as[j]? = some (.v (.c (.s v))) ∧ p = .v (.c (.s v))) := fun j p hj => by
  have hjl : j < as.length := by rw [← hpl]; exact (List.getElem?_eq_some_iff.1 hj).1
  rcases hps j _ p (List.getElem?_eq_getElem hjl) hj with ⟨h1, h2⟩ | ⟨h1, v, h2, h3⟩
  ·exact .inl ⟨by rw [Nat.zero_add] at h1; exact h1, h2⟩
  ·exact .inr ⟨by rw [Nat.zero_add] at h1; exact h1, v, by rw [List.getElem?_eq_getElem hjl, h2], h3⟩
 have hpq : ps[q]? = some (.v (.c (.wr e ys))) := by
  have hql : q < ps.length := by rw [hpl]; exact hq
  have := List.getElem?_eq_getElem hql
  rcases arg q _ this with ⟨_, h2⟩ | ⟨h1, _⟩
  ·rw [this, h2]
  ·exact absurd rfl h1
 have hA : ArgsR E w G.I Φc (fun _ => 0) F ps vals := by
  refine ⟨by rw [hlen, hpl], fun j c hj => ?_, fun j cs hj => ?_, fun j cs hj => ?_, fun j e x hj => ?_, fun j f xs hj => ?_, fun j j' cs cs' hj => ?_, fun j l k hk => hk.2.2, fun j l j' l' k h h' => ⟨h.1.trans h'.1.symm, h.2.1.trans h'.2.1.symm⟩, fun j cs hj => ?_⟩
  ·rcases arg j _ hj with ⟨rfl, h2⟩ | ⟨h1, v, h2, h3⟩
   ·cases h2
    rw [hqv]
    exact how.keep fun k hk => ⟨⟨rfl, rfl, hk⟩, rfl⟩
   ·cases h3
    obtain ⟨e1, e2⟩ := has j _ h2
    show Rd E w G.I _ _
    rw [e1]; exact .s e2
  ·rcases arg j _ hj with ⟨_, h2⟩ | ⟨_, v, _, h3⟩
   ·cases h2
   ·cases h3
  ·rcases arg j _ hj with ⟨_, h2⟩ | ⟨_, v, _, h3⟩
   ·cases h2
   ·cases h3
  ·rcases arg j _ hj with ⟨_, h2⟩ | ⟨_, v, _, h3⟩
   ·cases h2
   ·cases h3
  ·rcases arg j _ hj with ⟨_, h2⟩ | ⟨_, v, _, h3⟩
   ·cases h2
   ·cases h3
  ·rcases arg j _ hj with ⟨_, h2⟩ | ⟨_, v, _, h3⟩
   ·cases h2
   ·cases h3
  ·rcases arg j _ hj with ⟨_, h2⟩ | ⟨_, v, _, h3⟩
   ·cases h2
   ·cases h3
 refine (hC vals w G.I Φc _ F hIc (hM.glob hE fun k hk => hk) (fun k hk => ⟨(hM.lo pd.id _ hlk k (hΦl k hk).1).2.1, .inr ⟨q, 0, e, ys, ⟨_, hpq, rfl⟩, rfl, rfl, hk⟩⟩) hA).mono fun en' w' he => ?_
 obtain ⟨v, I', fp, F', rfl, hP⟩ := he
 refine ⟨v, rfl, ?_⟩
 obtain ⟨u, q1, q2 | ⟨v0, q2⟩⟩ := hP.wu q _ 0 e ys hpq rfl
 case inr => rw [hupd] at q1; cases q1; simp at q2
 obtain ⟨e2, ys2, q2, q3⟩ := q2
 rw [hupd] at q1; cases q1
 simp only [List.getElem?_cons_zero, Option.some.injEq] at q2
 cases q2
 simp only [cellV, hqv] at q3
 have hgfp : G.fp pd.id g := hbk g (by rw [hhd]; rfl)
 have hgs : g < w.heap.size := (hM.lo pd.id _ hlk g hgfp).2.1
 have F'n : ∀ k, F' q 0 k → Φc k ∨ w.heap.size ≤ k := fun k hk => (hP.wf q 0 k hk).1
 classical
 let fp' : Nat → Prop := fun k => (G.fp pd.id k ∧ ¬ Φc k) ∨ F' q 0 k
 have hkeep : ∀ k, k < w.heap.size → ¬ Φc k → w'.heap[k]? = w.heap[k]? := fun k h1 h2 => hP.fr.block k h1 h2
 have hcx : ∀ j', cellAt E e0 x j' = if j' = pd.off then .sl e' ys' else cellAt E e0 (xs.getD pd.i (E.dflt e0)) j' := fun j' => by
  simp only [cellAt, hxc, setls, setl_eq, List.getD_eq_getElem?_getD]
  rw [List.getElem?_set]
  have hl : pd.off < (E.cells e0 ((xs[pd.i]?).getD (E.dflt e0))).length := by
   have := (List.getElem?_eq_some_iff.1 hc).1
   rwa [List.getD_eq_getElem?_getD] at this
  by_cases hj : pd.off = j'
  ·subst hj; simp [hl]
  ·rw [if_neg hj, if_neg (Ne.symm hj)]
 have htop : Top E w' G.I true fp' (G.hd pd.id) e0 (xs.set pd.i x) := by
  refine ⟨inner, fun i' j' => if i' = pd.i ∧ j' = pd.off then F' q 0 else Fo i' j', ?_, fun k hk => .inl ⟨hbk k hk, fun hΦ => (hΦl k hΦ).2 hk⟩, fun i' j' k h1 h2 hk => ?_, fun i1 j1 i2 j2 k h1 h2 h3 h4 hk hk' => ?_, fun i' j' h1 h2 => ?_⟩
  ·rw [List.length_set]
   exact ownsG_move ho fun k hk => hkeep k (hM.lo pd.id _ hlk k (hbk k hk)).2.1 fun hΦ => (hΦl k hΦ).2 hk
  ·rw [List.length_set] at h1
   split at hk
   ·refine ⟨.inr hk, fun ho' => ?_⟩
    rcases F'n k hk with h3 | h3
    ·exact (hΦl k h3).2 ho'
    ·rw [hhd] at ho'; simp [Value.ownBlock] at ho'; subst ho'; omega
   ·rename_i hn
    exact ⟨.inl ⟨(hf i' j' k h1 h2 hk).1, fun hΦ => hn (hd i' j' pd.i pd.off k h1 h2 hix hoff hk hΦ)⟩, (hf i' j' k h1 h2 hk).2⟩
  ·rw [List.length_set] at h1 h3
   have cross : ∀ i' j', i' < xs.length → j' < E.sz e0 → Fo i' j' k → F' q 0 k → i' = pd.i ∧ j' = pd.off := fun i' j' g1 g2 g3 g4 => by
    rcases F'n k g4 with g5 | g5
    ·exact hd i' j' pd.i pd.off k g1 g2 hix hoff g3 g5
    ·exact absurd (hM.lo pd.id _ hlk k (hf i' j' k g1 g2 g3).1).2.1 (Nat.not_lt.2 g5)
   split at hk
   ·rename_i c1
    split at hk'
    ·rename_i c2; exact ⟨c1.1.trans c2.1.symm, c1.2.trans c2.2.symm⟩
    ·obtain ⟨e1, e2⟩ := cross i2 j2 h3 h4 hk' hk; exact ⟨c1.1.trans e1.symm, c1.2.trans e2.symm⟩
   ·split at hk'
    ·rename_i c2; obtain ⟨e1, e2⟩ := cross i1 j1 h1 h2 hk hk'; exact ⟨e1.trans c2.1.symm, e2.trans c2.2.symm⟩
    ·exact hd i1 j1 i2 j2 k h1 h2 h3 h4 hk hk'
  ·rw [List.length_set] at h1
   have old : ¬ (i' = pd.i ∧ j' = pd.off) → In E w' G.I true (Fo i' j') (inner.getD (i' * E.sz e0 + j') undef) (cellAt E e0 (xs.getD i' (E.dflt e0)) j') := fun hn => by
    have := hr i' j' h1 h2
    unfold In at this ⊢
    rw [if_pos rfl] at this ⊢
    exact this.keep fun k hk => ⟨hk, hkeep k (hM.lo pd.id _ hlk k (hf i' j' k h1 h2 hk).1).2.1 fun hΦ => hn (hd i' j' pd.i pd.off k h1 h2 hix hoff hk hΦ)⟩
   by_cases hi : i' = pd.i
   ·subst hi
    have hg : (xs.set pd.i x).getD pd.i (E.dflt e0) = x := by simp [List.getD_eq_getElem?_getD, List.getElem?_set, hix]
    rw [hg, hcx j']
    by_cases hj : j' = pd.off
    ·subst hj
     simp only [and_self, if_true]
     unfold In
     rw [if_pos rfl, ← hval]
     exact q3
    ·simp only [hj, and_false, if_false]
     exact old (fun h => hj h.2)
   ·have hg : (xs.set pd.i x).getD i' (E.dflt e0) = xs.getD i' (E.dflt e0) := by simp [List.getD_eq_getElem?_getD, List.getElem?_set, Ne.symm hi]
    rw [hg]
    simp only [hi, false_and, if_false]
    exact old (fun h => hi h.1)
 have hmle : Mle G m n (G.upd pd.id (G.hd pd.id) (G.bk pd.id) fp') (setm m pd.id (.row true e0 (xs.set pd.i x))) := Mle.row hlk List.length_set _ _
 have hM' := hM.put (Ψ := Φc) (hM.lt _ _ hlk) (Nat.le_refl _) hP.fr (fun k hk => ⟨(hM.lo pd.id _ hlk k (hΦl k hk).1).1, (hM.lo pd.id _ hlk k (hΦl k hk).1).2.2, fun j b hj hne hfp => hM.dj pd.id j _ b hlk hj (Ne.symm hne) k (hΦl k hk).1 hfp⟩) hmle
  (by
   show Top E w' G.I true ((G.upd pd.id (G.hd pd.id) (G.bk pd.id) fp').fp pd.id) ((G.upd pd.id (G.hd pd.id) (G.bk pd.id) fp').hd pd.id) e0 _
   simpa [Gh.upd] using htop)
  (fun k hk => by
   rcases hk with hk | hk
   ·have := hM.lo pd.id _ hlk k hk.1
    exact ⟨this.1, Nat.lt_of_lt_of_le this.2.1 hP.fr.size, this.2.2, fun j b hj hne hfp => hM.dj pd.id j _ b hlk hj (Ne.symm hne) k hk.1 hfp⟩
   ·have h2 := (hP.wf q 0 k hk).2.1
    rcases F'n k hk with h1 | h1
    ·have := hM.lo pd.id _ hlk k (hΦl k h1).1
     exact ⟨this.1, h2, this.2.2, fun j b hj hne hfp => hM.dj pd.id j _ b hlk hj (Ne.symm hne) k (hΦl k h1).1 hfp⟩
    ·exact ⟨.inl (Nat.le_trans hM.fr.size h1), h2, fun hI => absurd (hM.il k hI) (Nat.not_lt.2 h1), fun j b hj hne hfp => absurd (hM.lo j b hj k hfp).2.1 (Nat.not_lt.2 h1)⟩)
 have hi : ∀ k, G.I k → G.I k ∧ w'.heap[k]? = w.heap[k]? := fun k hk => ⟨hk, hkeep k (hM.il k hk) (hIc k hk).2⟩
 obtain ⟨b, m3, G3, h3, hM3, hmle3, hI3, hrel⟩ := getRV_sound hM' hP.rv (.inl hfr) (fun i j k hk => by
  obtain ⟨q1, q2, q3⟩ := hP.fps i j k hk
  have hnF : ¬ F' q 0 k := fun h => (hP.wf q 0 k h).2.2.2 i j hk
  refine ⟨?_, q2, fun hI => q3 (hP.hI k hI), fun id b hb hfp => ?_⟩
  ·rcases q1 with q1 | ⟨_, _, _, _, q1⟩
   ·exact .inl (Nat.le_trans hM.fr.size q1)
   ·exact (hM.lo pd.id _ hlk k (hΦl k q1).1).1
  ·rw [look_set] at hb
   by_cases hne : pd.id = id
   ·subst hne
    simp only [Gh.upd, if_true] at hfp
    rcases hfp with ⟨g1, g2⟩ | hfp
    ·rcases q1 with q1 | ⟨_, _, _, _, q1⟩
     ·exact absurd (hM.lo pd.id _ hlk k g1).2.1 (Nat.not_lt.2 q1)
     ·exact g2 q1
    ·exact hnF hfp
   ·rw [if_neg hne] at hb
    simp only [Gh.upd, if_neg (Ne.symm hne)] at hfp
    rcases q1 with q1 | ⟨_, _, _, _, q1⟩
    ·exact absurd (hM.lo id b hb k hfp).2.1 (Nat.not_lt.2 q1)
    ·exact hM.dj pd.id id _ b hlk hb hne k (hΦl k q1).1 hfp) hP.dis h
 exact hfin b m3 G3 v w' h3 hM3 (hT.keep (hmle.trans hmle3) (Nat.le_add_right _ _) fun k hk => ⟨hI3 k (hi k hk).1, (hi k hk).2⟩) hrel
theorem handHs_sound (hM : Mr E w0 Φ I0 G m n w) {p : Nat} {c : Cell E.T} : ∀ {as : List (AV E)} {j0 : Nat} {k : List (P2 E) → Mp E}, (handHs p c j0 as k).run m K = some r →
  ∃ ps, (k ps).run m K = some r ∧ ps.length = as.length ∧ ∀ (j : Nat) (x : AV E) (q : P2 E), as[j]? = some x → ps[j]? = some q → (j0 + j = p ∧ q = .v (.c c)) ∨ (j0 + j ≠ p ∧ ∃ b c', x = .v (.c b) ∧ q = .v (.c c') ∧ ∀ u, A1r E G w m n b u → Rd E w (SeenI G m (seenA b)) u c')
 | [], j0, k, h => ⟨[], h, rfl, fun j x q hj => by simp at hj⟩
 | x :: as, j0, k, h => by
  have rest : ∀ (q : P2 E), ((j0 = p ∧ q = .v (.c c)) ∨ (j0 ≠ p ∧ ∃ b c', x = .v (.c b) ∧ q = .v (.c c') ∧ ∀ u, A1r E G w m n b u → Rd E w (SeenI G m (seenA b)) u c')) → (handHs p c (j0 + 1) as fun ps => k (q :: ps)).run m K = some r →
    ∃ ps, (k ps).run m K = some r ∧ ps.length = (x :: as).length ∧ ∀ (j : Nat) (y : AV E) (q : P2 E), (x :: as)[j]? = some y → ps[j]? = some q → (j0 + j = p ∧ q = .v (.c c)) ∨ (j0 + j ≠ p ∧ ∃ b c', y = .v (.c b) ∧ q = .v (.c c') ∧ ∀ u, A1r E G w m n b u → Rd E w (SeenI G m (seenA b)) u c') := fun q hq h => by
   obtain ⟨ps, h1, h2, h3⟩ := handHs_sound hM (as := as) h
   refine ⟨q :: ps, h1, by simp [h2], fun j y q' hj hj' => ?_⟩
   cases j with
   | zero => simp at hj hj'; subst hj; subst hj'; simpa using hq
   | succ j =>
    have := h3 j y q' (by simpa using hj) (by simpa using hj')
    rwa [Nat.add_assoc, Nat.add_comm 1 j] at this
  cases hb : Nat.beq j0 p with
  | true =>
   simp only [handHs, hb] at h
   exact rest _ (.inl ⟨Nat.eq_of_beq_eq_true hb, rfl⟩) h
  | false =>
   have hne := Nat.ne_of_beq_eq_false hb
   unfold handHs at h
   rw [hb] at h
   split at h
   ·rename_i h1; cases h1
   ·rename_i b _
    obtain ⟨c', h1, h2, _⟩ := seeCell_sound hM h
    exact rest _ (.inr ⟨hne, b, c', rfl, rfl, h2⟩) h1
   ·cases h
theorem callH_sound [GlobOK E w0 Φ I0] (hE : EnvOK E P) {f : FuncId} {en : Entry E} (hC : SoundC E P f en.F) {G : Gh} {m : Mem E} {n : Nat} (hM : Mr E w0 Φ I0 G m n w) (hT : Tr E G ts m n a w) {as : List (AV E)} {vals : Array Value} (hlen : vals.size = as.length)
  {q id i off : Nat} (hqa : as[q]? = some (.v (.c (.hd id i off))))
  (has : ∀ (j : Nat) (b : AV E), as[j]? = some b → AVr E G w m n b (vals.getD j undef)) (h : (callH n en as q id i off).run m K = some r) {fin : Value → World → Prop}
  (hfin : ∀ v m' G' u w', K v m' = some r → Mr E w0 Φ I0 G' m' (n + wide) w' → Tr E G' ts m' (n + wide) a w' → AVr E G' w' m' (n + wide) v u → fin u w') :
  Calls P f vals w fun e w' => ∃ u, e = .returned u ∧ fin u w' := by
 have hq : q < as.length := (List.getElem?_eq_some_iff.1 hqa).1
 unfold callH at h
 split at h
 case h_2 => cases h
 rename_i hap
 obtain ⟨b, hlk, h⟩ := run_get h
 split at h
 case h_2 => cases h
 rename_i e0 xs
 split at h
 case h_2 => cases h
 rename_i e ys hc
 rw [geta_eq] at hc
 obtain ⟨_, _, hv0⟩ := has q _ hqa
 obtain ⟨hix, hoff, hqv⟩ := hv0 _ _ hlk
 obtain ⟨ps, h, hpl, hps⟩ := handHs_sound hM h
 obtain ⟨ans, hans, h⟩ := run_call h
 obtain ⟨res, hw, hC⟩ := hC ps ans hans
 rw [hw] at h
 split at h
 case h_2 => cases h
 rename_i e' ys' hfr hupd
 rw [geta_eq] at hupd
 split at h
 case h_2 => cases h
 rename_i he _
 have h9 := h
 clear h
 have he := he.symm
 subst he
 split at h9
 case h_2 => cases h9
 rename_i x hx
 rw [putE_eq hx] at h9
 have h := run_put h9
 have hxc := hE.make _ _ _ hx
 obtain ⟨htop0, hds⟩ := hM.bl id _ hlk
 obtain ⟨inner, Fo, ho, hbk, hf, hd, hr⟩ := htop0
 obtain ⟨g, cap', hhd, hle, hcell'⟩ := ownsG_cell ho (i * E.sz e0 + off) (lt_of_pair hix hoff)
 rw [add_plain] at hcell'
 have hca : cellAt E e0 (xs.getD i (E.dflt e0)) off = .sl e ys := by simp only [cellAt, List.getD_eq_getElem?_getD] at hc ⊢; rw [hc]; rfl
 rw [hds i off e ys g _ _ hix hoff hca hhd] at hcell'
 have hval : vals.getD q undef = inner.getD (i * E.sz e0 + off) undef := hqv.trans (Option.some.inj hcell')
 have how : Ow E w (Fo i off) (vals.getD q undef) (.sl e ys) := by
  have := hr i off hix hoff
  unfold In at this
  rw [if_pos rfl, hca, ← hval] at this
  exact this
 let Ic : Nat → Prop := SeenI G m (rdIds [(q, 0)] 0 as)
 let Φc : Nat → Prop := Fo i off
 let F : Nat → Nat → Nat → Prop := fun j l k => j = q ∧ l = 0 ∧ Φc k
 have hΦl : ∀ k, Φc k → G.fp id k ∧ (G.hd id).ownBlock ≠ some k := fun k hk => hf i off k hix hoff hk
 have hIc : ∀ k, Ic k → k < w.heap.size ∧ ¬ Φc k := fun k hk => by
  rcases hk with hk | ⟨id', hid, ⟨b, hb⟩, hk⟩
  ·exact ⟨hM.il k hk, fun h => (hM.lo id _ hlk k (hΦl k h).1).2.2 hk⟩
  ·refine ⟨(hM.lo id' b hb k hk).2.1, fun h3 => ?_⟩
   have hne : id ≠ id' := fun e => by subst e; exact apartI_iff hap id (by simp) hid
   exact hM.dj id id' _ b hlk hb hne k (hΦl k h3).1 hk
 have arg : ∀ (j : Nat) (p : P2 E), ps[j]? = some p → (j = q ∧ p = .v (.c (.wr e ys))) ∨ (j ≠ q ∧ ∃ b c', as[j]? = some (.v (.c b)) ∧ p = .v (.c c') ∧ ∀ u, A1r E G w m n b u → Rd E w Ic u c') := fun j p hj => by
  have hjl : j < as.length := by rw [← hpl]; exact (List.getElem?_eq_some_iff.1 hj).1
  rcases hps j _ p (List.getElem?_eq_getElem hjl) hj with ⟨h1, h2⟩ | ⟨h1, b, c', h2, h3, h4⟩
  ·exact .inl ⟨by rw [Nat.zero_add] at h1; exact h1, h2⟩
  ·have hja : as[j]? = some (.v (.c b)) := by rw [List.getElem?_eq_getElem hjl, h2]
   refine .inr ⟨by rw [Nat.zero_add] at h1; exact h1, b, c', hja, h3, fun u hu => (h4 u hu).more fun k hk => hk.imp (fun h => h) fun ⟨id', g1, g2⟩ => ⟨id', ?_, g2⟩⟩
   have hm0 : memP j 0 [(q, 0)] = false := by
    simp only [memP, Bool.or_false]
    have : Nat.beq q j = false := by
     cases hb : Nat.beq q j with
     | false => rfl
     | true => exact absurd (Nat.eq_of_beq_eq_true hb).symm (by rw [Nat.zero_add] at h1; exact h1)
    rw [this]; rfl
   have hmem := rdIdsL_mem (W := [(q, 0)]) (j := j) (as := cellsA2 (.c b)) (l0 := 0) (l := 0) (b := b) rfl (by simpa using hm0) id' g1
   exact rdIds_mem (W := [(q, 0)]) (as := as) (j0 := 0) (j := j) hja (by simpa using hmem)
 have hpq : ps[q]? = some (.v (.c (.wr e ys))) := by
  have hql : q < ps.length := by rw [hpl]; exact hq
  have := List.getElem?_eq_getElem hql
  rcases arg q _ this with ⟨_, h2⟩ | ⟨h1, _⟩
  ·rw [this, h2]
  ·exact absurd rfl h1
 have hA : ArgsR E w Ic Φc (fun _ => 0) F ps vals := by
  refine ⟨by rw [hlen, hpl], fun j c hj => ?_, fun j cs hj => ?_, fun j cs hj => ?_, fun j e x hj => ?_, fun j f xs hj => ?_, fun j j' cs cs' hj => ?_, fun j l k hk => hk.2.2, fun j l j' l' k h h' => ⟨h.1.trans h'.1.symm, h.2.1.trans h'.2.1.symm⟩, fun j cs hj => ?_⟩
  ·rcases arg j _ hj with ⟨rfl, h2⟩ | ⟨h1, b, c', h2, h3, h4⟩
   ·cases h2
    exact how.keep fun k hk => ⟨⟨rfl, rfl, hk⟩, rfl⟩
   ·cases h3
    exact CellR.of (h4 _ (has j _ h2))
  all_goals
   rcases arg j _ hj with ⟨_, h2⟩ | ⟨_, b, c', _, h3, _⟩
   ·cases h2
   ·cases h3
 refine (hC vals w Ic Φc _ F hIc (hM.glob hE fun k hk => .inl hk) (fun k hk => ⟨(hM.lo id _ hlk k (hΦl k hk).1).2.1, .inr ⟨q, 0, e, ys, ⟨_, hpq, rfl⟩, rfl, rfl, hk⟩⟩) hA).mono fun en' w' he => ?_
 obtain ⟨v, I', fp, F', rfl, hP⟩ := he
 refine ⟨v, rfl, ?_⟩
 obtain ⟨u, q1, q2 | ⟨v0, q2⟩⟩ := hP.wu q _ 0 e ys hpq rfl
 case inr => rw [hupd] at q1; cases q1; simp at q2
 obtain ⟨e2, ys2, q2, q3⟩ := q2
 rw [hupd] at q1; cases q1
 simp only [List.getElem?_cons_zero, Option.some.injEq] at q2
 cases q2
 simp only [cellV] at q3
 have hgfp : G.fp id g := hbk g (by rw [hhd]; rfl)
 have hgs : g < w.heap.size := (hM.lo id _ hlk g hgfp).2.1
 have F'n : ∀ k, F' q 0 k → Φc k ∨ w.heap.size ≤ k := fun k hk => (hP.wf q 0 k hk).1
 classical
 let fp' : Nat → Prop := fun k => (G.fp id k ∧ ¬ Φc k) ∨ F' q 0 k
 have hkeep : ∀ k, k < w.heap.size → ¬ Φc k → w'.heap[k]? = w.heap[k]? := fun k h1 h2 => hP.fr.block k h1 h2
 have hcx : ∀ j', cellAt E e0 x j' = if j' = off then .sl e ys' else cellAt E e0 (xs.getD i (E.dflt e0)) j' := fun j' => by
  simp only [cellAt, hxc, setls, setl_eq, List.getD_eq_getElem?_getD]
  rw [List.getElem?_set]
  have hl : off < (E.cells e0 ((xs[i]?).getD (E.dflt e0))).length := by
   have := (List.getElem?_eq_some_iff.1 hc).1
   rwa [List.getD_eq_getElem?_getD] at this
  by_cases hj : off = j'
  ·subst hj; simp [hl]
  ·rw [if_neg hj, if_neg (Ne.symm hj)]
 have hg0 : ∀ i', i' < xs.length → (xs.set i x).getD i' (E.dflt e0) = if i' = i then x else xs.getD i' (E.dflt e0) := fun i' h1 => by
  by_cases hi : i' = i
  ·subst hi; rw [if_pos rfl]; simp [List.getD_eq_getElem?_getD, List.getElem?_set, h1]
  ·rw [if_neg hi]; simp [List.getD_eq_getElem?_getD, List.getElem?_set, Ne.symm hi]
 have htop : Top E w' G.I true fp' (G.hd id) e0 (xs.set i x) := by
  refine ⟨inner, fun i' j' => if i' = i ∧ j' = off then F' q 0 else Fo i' j', ?_, fun k hk => .inl ⟨hbk k hk, fun hΦ => (hΦl k hΦ).2 hk⟩, fun i' j' k h1 h2 hk => ?_, fun i1 j1 i2 j2 k h1 h2 h3 h4 hk hk' => ?_, fun i' j' h1 h2 => ?_⟩
  ·rw [List.length_set]
   exact ownsG_move ho fun k hk => hkeep k (hM.lo id _ hlk k (hbk k hk)).2.1 fun hΦ => (hΦl k hΦ).2 hk
  ·rw [List.length_set] at h1
   split at hk
   ·refine ⟨.inr hk, fun ho' => ?_⟩
    rcases F'n k hk with h3 | h3
    ·exact (hΦl k h3).2 ho'
    ·rw [hhd] at ho'; simp [Value.ownBlock] at ho'; subst ho'; omega
   ·rename_i hn
    exact ⟨.inl ⟨(hf i' j' k h1 h2 hk).1, fun hΦ => hn (hd i' j' i off k h1 h2 hix hoff hk hΦ)⟩, (hf i' j' k h1 h2 hk).2⟩
  ·rw [List.length_set] at h1 h3
   have cross : ∀ i' j', i' < xs.length → j' < E.sz e0 → Fo i' j' k → F' q 0 k → i' = i ∧ j' = off := fun i' j' g1 g2 g3 g4 => by
    rcases F'n k g4 with g5 | g5
    ·exact hd i' j' i off k g1 g2 hix hoff g3 g5
    ·exact absurd (hM.lo id _ hlk k (hf i' j' k g1 g2 g3).1).2.1 (Nat.not_lt.2 g5)
   split at hk
   ·rename_i c1
    split at hk'
    ·rename_i c2; exact ⟨c1.1.trans c2.1.symm, c1.2.trans c2.2.symm⟩
    ·obtain ⟨e1, e2⟩ := cross i2 j2 h3 h4 hk' hk; exact ⟨c1.1.trans e1.symm, c1.2.trans e2.symm⟩
   ·split at hk'
    ·rename_i c2; obtain ⟨e1, e2⟩ := cross i1 j1 h1 h2 hk hk'; exact ⟨e1.trans c2.1.symm, e2.trans c2.2.symm⟩
    ·exact hd i1 j1 i2 j2 k h1 h2 h3 h4 hk hk'
  ·rw [List.length_set] at h1
   have old : ¬ (i' = i ∧ j' = off) → In E w' G.I true (Fo i' j') (inner.getD (i' * E.sz e0 + j') undef) (cellAt E e0 (xs.getD i' (E.dflt e0)) j') := fun hn => by
    have := hr i' j' h1 h2
    unfold In at this ⊢
    rw [if_pos rfl] at this ⊢
    exact this.keep fun k hk => ⟨hk, hkeep k (hM.lo id _ hlk k (hf i' j' k h1 h2 hk).1).2.1 fun hΦ => hn (hd i' j' i off k h1 h2 hix hoff hk hΦ)⟩
   rw [hg0 i' h1]
   by_cases hi : i' = i
   ·subst hi
    rw [if_pos rfl, hcx j']
    by_cases hj : j' = off
    ·subst hj
     simp only [and_self, if_true]
     unfold In
     rw [if_pos rfl, ← hval]
     exact q3
    ·simp only [hj, and_false, if_false]
     exact old (fun h => hj h.2)
   ·rw [if_neg hi]
    simp only [hi, false_and, if_false]
    exact old (fun h => hi h.1)
 have hcell2 : ∀ i' j', i' < xs.length → ∀ e2 (ys2 : List (E.T e2)), cellAt E e0 ((xs.set i x).getD i' (E.dflt e0)) j' = .sl e2 ys2 → ∃ e3, ∃ ys3 : List (E.T e3), cellAt E e0 (xs.getD i' (E.dflt e0)) j' = .sl e3 ys3 := fun i' j' h1 e2 ys2 h => by
  rw [hg0 i' h1] at h
  by_cases hi : i' = i
  ·subst hi
   rw [if_pos rfl, hcx j'] at h
   by_cases hj : j' = off
   ·subst hj; exact ⟨_, _, hca⟩
   ·rw [if_neg hj] at h; exact ⟨_, _, h⟩
  ·rw [if_neg hi] at h; exact ⟨_, _, h⟩
 have hgk : w'.heap[g]? = w.heap[g]? := hkeep g hgs fun hΦ => (hΦl g hΦ).2 (by rw [hhd]; rfl)
 have hds' : Hds E w' (G.hd id) (G.ih id) e0 (xs.set i x) := fun i' j' e2 ys2 g2 L2 cap2 h1 h2 h3 h4 => by
  rw [List.length_set] at h1
  obtain ⟨e3, ys3, h5⟩ := hcell2 i' j' h1 e2 ys2 h3
  have h6 := hds i' j' e3 ys3 g2 L2 cap2 h1 h2 h5 h4
  rw [hhd] at h4
  injection h4 with h7 _ _
  injection h7 with h7
  injection h7 with h7 _ _
  subst h7
  rw [cell_keeps (w := w) (w' := w') hgk]
  exact h6
 have hmle : Mle G m n (G.upd id (G.hd id) (G.bk id) fp') (setm m id (.rowV e0 (xs.set i x))) := fun k hk => by
  by_cases hki : k = id
  ·subst hki
   refine ⟨fun d e1 x1 hx => ?_, fun cs hx => ?_, fun e1 x1 hx => ?_⟩
   ·rw [look_set, if_pos rfl] at hx; cases hx
   ·rw [look_set, if_pos rfl] at hx; cases hx
   ·rw [look_set, if_pos rfl] at hx
    cases hx
    refine ⟨by simp [Gh.upd], rfl, xs, hlk, List.length_set, fun i' j' e2 ys2 hi' hcq => ?_⟩
    rw [hg0 i' hi'] at hcq
    by_cases hij : i' = i
    ·rw [if_pos hij, hcx j'] at hcq
     by_cases hjj : j' = off
     ·rw [if_pos hjj] at hcq
      cases hcq
      exact ⟨ys, by rw [hij, hjj]; exact hca⟩
     ·rw [if_neg hjj] at hcq; exact ⟨_, by rw [hij]; exact hcq⟩
    ·rw [if_neg hij] at hcq; exact ⟨_, hcq⟩
  ·refine ⟨fun d e1 x1 hx => ?_, fun cs hx => ?_, fun e1 x1 hx => ?_⟩
   ·rw [look_set, if_neg (Ne.symm hki)] at hx; exact ⟨by simp [Gh.upd, hki], d, x1, hx, rfl⟩
   ·rw [look_set, if_neg (Ne.symm hki)] at hx; exact ⟨by simp [Gh.upd, hki], cs, hx⟩
   ·rw [look_set, if_neg (Ne.symm hki)] at hx; exact ⟨by simp [Gh.upd, hki], rfl, x1, hx, rfl, fun i' j' e2 ys2 _ h => ⟨ys2, h⟩⟩
 have hM' := hM.put (Ψ := Φc) (hM.lt _ _ hlk) (Nat.le_refl _) hP.fr (fun k hk => ⟨(hM.lo id _ hlk k (hΦl k hk).1).1, (hM.lo id _ hlk k (hΦl k hk).1).2.2, fun j b hj hne hfp => hM.dj id j _ b hlk hj (Ne.symm hne) k (hΦl k hk).1 hfp⟩) hmle
  (by
   show Top E w' G.I true ((G.upd id (G.hd id) (G.bk id) fp').fp id) ((G.upd id (G.hd id) (G.bk id) fp').hd id) e0 _ ∧ Hds E w' ((G.upd id (G.hd id) (G.bk id) fp').hd id) (G.ih id) e0 _
   exact ⟨by simpa [Gh.upd] using htop, by simpa [Gh.upd] using hds'⟩)
  (fun k hk => by
   rcases hk with hk | hk
   ·have := hM.lo id _ hlk k hk.1
    exact ⟨this.1, Nat.lt_of_lt_of_le this.2.1 hP.fr.size, this.2.2, fun j b hj hne hfp => hM.dj id j _ b hlk hj (Ne.symm hne) k hk.1 hfp⟩
   ·have h2 := (hP.wf q 0 k hk).2.1
    rcases F'n k hk with h1 | h1
    ·have := hM.lo id _ hlk k (hΦl k h1).1
     exact ⟨this.1, h2, this.2.2, fun j b hj hne hfp => hM.dj id j _ b hlk hj (Ne.symm hne) k (hΦl k h1).1 hfp⟩
    ·exact ⟨.inl (Nat.le_trans hM.fr.size h1), h2, fun hI => absurd (hM.il k hI) (Nat.not_lt.2 h1), fun j b hj hne hfp => absurd (hM.lo j b hj k hfp).2.1 (Nat.not_lt.2 h1)⟩)
 have hi : ∀ k, G.I k → G.I k ∧ w'.heap[k]? = w.heap[k]? := fun k hk => ⟨hk, hkeep k (hM.il k hk) (hIc k (.inl hk)).2⟩
 obtain ⟨b, m3, G3, h3, hM3, hmle3, hI3, hrel⟩ := getRV_sound hM' hP.rv (.inl hfr) (fun i' j' k hk => by
  obtain ⟨q1, q2, q3⟩ := hP.fps i' j' k hk
  have hnF : ¬ F' q 0 k := fun h => (hP.wf q 0 k h).2.2.2 i' j' hk
  refine ⟨?_, q2, fun hI => q3 (hP.hI k (.inl hI)), fun id' b hb hfp => ?_⟩
  ·rcases q1 with q1 | ⟨_, _, _, _, q1⟩
   ·exact .inl (Nat.le_trans hM.fr.size q1)
   ·exact (hM.lo id _ hlk k (hΦl k q1).1).1
  ·rw [look_set] at hb
   by_cases hne : id = id'
   ·subst hne
    simp only [Gh.upd, if_true] at hfp
    rcases hfp with ⟨g1, g2⟩ | hfp
    ·rcases q1 with q1 | ⟨_, _, _, _, q1⟩
     ·exact absurd (hM.lo id _ hlk k g1).2.1 (Nat.not_lt.2 q1)
     ·exact g2 q1
    ·exact hnF hfp
   ·rw [if_neg hne] at hb
    simp only [Gh.upd, if_neg (Ne.symm hne)] at hfp
    rcases q1 with q1 | ⟨_, _, _, _, q1⟩
    ·exact absurd (hM.lo id' b hb k hfp).2.1 (Nat.not_lt.2 q1)
    ·exact hM.dj id id' _ b hlk hb hne k (hΦl k q1).1 hfp) hP.dis h
 exact hfin b m3 G3 v w' h3 hM3 (hT.keep (hmle.trans hmle3) (Nat.le_add_right _ _) fun k hk => ⟨hI3 k (hi k hk).1, (hi k hk).2⟩) hrel
theorem callW_sound [GlobOK E w0 Φ I0] (hE : EnvOK E P) {f : FuncId} {en : Entry E} (hC : SoundC E P f en.F) {G : Gh} {m : Mem E} {n : Nat} (hM : Mr E w0 Φ I0 G m n w) (hT : Tr E G ts m n a w) {as : List (AV E)} {vals : Array Value} (hlen : vals.size = as.length)
  (has : ∀ (j : Nat) (b : AV E), as[j]? = some b → AVr E G w m n b (vals.getD j undef)) (h : (callW n en as).run m K = some r) {fin : Value → World → Prop}
  (hfin : ∀ v m' G' u w', K v m' = some r → Mr E w0 Φ I0 G' m' (n + wide) w' → Tr E G' ts m' (n + wide) a w' → AVr E G' w' m' (n + wide) v u → fin u w') :
  Calls P f vals w fun e w' => ∃ u, e = .returned u ∧ fin u w' := by
 unfold callW at h
 split at h
 ·split at h
  ·rename_i hg
   rw [geta_eq] at hg
   exact callH_sound hE hC hM hT hlen hg has h hfin
  ·exact callW0_sound hE hC hM hT hlen has h hfin
 ·exact callW0_sound hE hC hM hT hlen has h hfin
end
end Go.B
