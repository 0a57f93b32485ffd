/- What the reckoner's plain operations say of the program's: what is handed to a call and what comes back. -/
import Derived.Test.YtepfpdaehcmblaaBOpsC
namespace Go.B
open Go Go.RowKit
set_option linter.unusedVariables false
set_option linter.unusedSimpArgs false
variable {E : Env} {P : Program}
def BoxR (E : Env) (w : World) (I : Nat → Prop) (g : Nat) (cs : List (Cell E.T)) : Prop :=
 ∃ arr ty, w.heap[g]? = some (.cells arr ty (0, 0)) ∧ arr.size = cs.length ∧ ∀ (j : Nat) (c : Cell E.T), cs[j]? = some c → Rd E w I (arr.getD j undef) c
def CellR (E : Env) (w : World) (I F : Nat → Prop) : Cell E.T → Value → Prop
 | .wr e xs, u => Ow E w F u (.sl e xs)
 | .s v, u => Rd E w I u (.s v)
 | .sl e xs, u => Rd E w I u (.sl e xs)
theorem CellR.of {w : World} {I F : Nat → Prop} {c : Cell E.T} {u : Value} (h : Rd E w I u c) : CellR E w I F c u := by
 cases c with
 | s v => exact h
 | sl e xs => exact h
 | wr e xs => nomatch h
theorem CellR.one {w : World} {I F : Nat → Prop} {c : Cell E.T} {u : Value} (h : CellR E w I F c u) : u.oneCell' = true := by
 cases c with
 | s v => exact Rd.one (c := .s v) h
 | sl e xs => exact Rd.one (c := .sl e xs) h
 | wr e xs => exact Ow.one (c := .sl e xs) h
def pcells : P2 E → List (Cell E.T)
 | .v (.c c) => [c]
 | .v (.ptr _) => []
 | .v (.ro _ _) => []
 | .v (.fn _ _) => []
 | .g cs => cs
def cellV (p : P2 E) (u : Value) (l : Nat) : Value := match p with
 | .g _ => match u with
  | .agg arr => arr.getD l undef
  | _ => undef
 | _ => u
def WrAt (ps : List (P2 E)) (j l : Nat) (e : TypeId) (xs : List (E.T e)) : Prop := ∃ p, ps[j]? = some p ∧ (pcells p)[l]? = some (.wr e xs)
structure ArgsR (E : Env) (w : World) (I Φ : Nat → Prop) (g : Nat → Nat) (F : Nat → Nat → Nat → Prop) (ps : List (P2 E)) (vals : Array Value) : Prop where
 len : vals.size = ps.length
 c : ∀ (j : Nat) (c : Cell E.T), ps[j]? = some (.v (.c c)) → CellR E w I (F j 0) c (vals.getD j undef)
 ptr : ∀ (j : Nat) (cs : List (Cell E.T)), ps[j]? = some (.v (.ptr cs)) → vals.getD j undef = .pointer (some ⟨g j, 0, none⟩) ∧ BoxR E w I (g j) cs ∧ Φ (g j)
 gg : ∀ (j : Nat) (cs : List (Cell E.T)), ps[j]? = some (.g cs) → ∃ arr, vals.getD j undef = .agg arr ∧ arr.size = cs.length ∧ ∀ (l : Nat) (c : Cell E.T), cs[l]? = some c → CellR E w I (F j l) c (arr.getD l undef)
 ro : ∀ (j : Nat) (e : TypeId) (x : E.T e), ps[j]? = some (.v (.ro e x)) → ∃ ad : Addr, vals.getD j undef = .pointer (some (ad.add 0)) ∧ ElemAt E w I ad e x
 fn : ∀ (j : Nat) (f : FuncId) (xs : List (Sigma E.T)), ps[j]? = some (.v (.fn f xs)) → FnpR E w I f xs (vals.getD j undef)
 inj : ∀ (j j' : Nat) (cs cs' : List (Cell E.T)), ps[j]? = some (.v (.ptr cs)) → ps[j']? = some (.v (.ptr cs')) → g j = g j' → j = j'
 wr : ∀ j l k, F j l k → Φ k
 wd : ∀ j l j' l' k, F j l k → F j' l' k → j = j' ∧ l = l'
 wg : ∀ (j : Nat) (cs : List (Cell E.T)), ps[j]? = some (.v (.ptr cs)) → ∀ j' l, ¬ F j' l (g j)
def R1r (E : Env) (w : World) (I : Nat → Prop) (fp : Nat → Prop) : R1 E → Value → Prop
 | .s v, u => u = v ∧ v.oneCell' = true
 | .own d e xs, u => Top E w I d fp u e xs
 | .imm e xs, u => Rd E w I u (.sl e xs)
 | .ptr cs, u => ∃ g, u = .pointer (some ⟨g, 0, none⟩) ∧ BoxR E w I g cs ∧ fp g
def R2r (E : Env) (w : World) (I : Nat → Prop) (fp : Nat → Nat → Prop) : R2 E → Value → Prop
 | .c r, u => R1r E w I (fp 0) r u
 | .g rs, u => ∃ arr, u = .agg arr ∧ arr.size = rs.length ∧ ∀ (j : Nat) (r : R1 E), rs[j]? = some r → R1r E w I (fp j) r (arr.getD j undef)
def RVr (E : Env) (w : World) (I : Nat → Prop) (fp : Nat → Nat → Nat → Prop) : RV E → Value → Prop
 | .v r, u => R2r E w I (fp 0) r u
 | .tup rs, u => ∃ arr, u = .tuple arr ∧ arr.size = rs.length ∧ ∀ (j : Nat) (r : R2 E), rs[j]? = some r → R2r E w I (fp j) r (arr.getD j undef)
structure Post (E : Env) (w w' : World) (I Φ : Nat → Prop) (g : Nat → Nat) (F : Nat → Nat → Nat → Prop) (ps : List (P2 E)) (vals : Array Value) (res : Res E) (v : Value) (I' : Nat → Prop) (fp F' : Nat → Nat → Nat → Prop) : Prop where
 fr : Frame Φ w w'
 hI : ∀ k, I k → I' k
 hI' : ∀ k, I' k → I k ∨ (w.heap.size ≤ k ∧ k < w'.heap.size) ∨ ∃ j l, F j l k
 rv : RVr E w' I' fp res.rv v
 fps : ∀ i j k, fp i j k → (w.heap.size ≤ k ∨ ∃ j l, F j l k) ∧ k < w'.heap.size ∧ ¬ I' k
 dis : ∀ i j i' j' k, fp i j k → fp i' j' k → i = i' ∧ j = j'
 up : res.upd.length = ps.length
 ups : ∀ (j : Nat) (cs u : List (Cell E.T)), ps[j]? = some (.v (.ptr cs)) → res.upd[j]? = some u → BoxR E w' I' (g j) u
 wu : ∀ (j : Nat) (p : P2 E) (l : Nat) (e : TypeId) (xs : List (E.T e)), ps[j]? = some p → (pcells p)[l]? = some (.wr e xs) → ∃ u, res.upd[j]? = some u ∧ ((∃ e' xs', u[l]? = some (.sl e' xs') ∧ Ow E w' (F' j l) (cellV p (vals.getD j undef) l) (.sl e' xs')) ∨ ∃ v, u[l]? = some (.s v))
 wf : ∀ j l k, F' j l k → (Φ k ∨ w.heap.size ≤ k) ∧ k < w'.heap.size ∧ ¬ I' k ∧ ∀ i i', ¬ fp i i' k
 wd' : ∀ j l j' l' k, F' j l k → F' j' l' k → j = j' ∧ l = l'
def SoundAt (E : Env) (P : Program) (f : FuncId) (ps : List (P2 E)) (res : Res E) : Prop :=
 ∀ (vals : Array Value) (w : World) (I Φ : Nat → Prop) (g : Nat → Nat) (F : Nat → Nat → Nat → Prop), (∀ k, I k → k < w.heap.size ∧ ¬ Φ k) → E.glob w I →
  (∀ k, Φ k → k < w.heap.size ∧ ((∃ (j : Nat) (cs : List (Cell E.T)), ps[j]? = some (.v (.ptr cs)) ∧ k = g j) ∨ ∃ j l e xs, WrAt ps j l e xs ∧ F j l k)) → ArgsR E w I Φ g F ps vals →
  Calls P f vals w fun e w' => ∃ v I' fp F', e = .returned v ∧ Post E w w' I Φ g F ps vals res v I' fp F'
def SoundF (E : Env) (P : Program) (f : FuncId) (F : List (P2 E) → Option (Res E)) : Prop := ∀ ps res, F ps = some res → SoundAt E P f ps res
def SoundC (E : Env) (P : Program) (f : FuncId) (F : List (P2 E) → Cl E) : Prop := ∀ ps a, (F ps).o = some a → ∃ res, (∀ {R : Type} (K : Res E → Option R), (F ps).w a K = K res) ∧ SoundAt E P f ps res
section
variable {R : Type} {G : Gh} {w w0 w1 w' : World} {m m' m1 m2 : Mem E} {n : Nat} {K : AV E → Mem E → Option R} {r : R} {Φ Ψ : Nat → Prop} {I0 : Ent} {ts : List (AV E)} {a : Act}
def SeenI (G : Gh) (m : Mem E) (s : List Nat) (k : Nat) : Prop := G.I k ∨ ∃ id, id ∈ s ∧ (∃ b, look m id = some b) ∧ G.fp id k
theorem SeenI.mono {s s' : List Nat} (h : ∀ i, i ∈ s → i ∈ s') {k : Nat} (hk : SeenI G m s k) : SeenI G m s' k := hk.imp _root_.id fun ⟨id, h1, h2⟩ => ⟨id, h id h1, h2⟩
theorem Rd.more {I I' : Nat → Prop} {u : Value} {c : Cell E.T} (h : Rd E w I u c) (hi : ∀ k, I k → I' k) : Rd E w I' u c := h.keep fun k hk => ⟨hi k hk, rfl⟩
theorem seeCell_sound (hM : Mr E w0 Φ I0 G m n w) {b : A1 E} {k : Cell E.T → Mp E} (h : (seeCell b k).run m K = some r) :
  ∃ c, (k c).run m K = some r ∧ (∀ u, A1r E G w m n b u → Rd E w (SeenI G m (seenA b)) u c) ∧ ∀ i ∈ seenA b, ∃ d e xs, look m i = some (.row d e xs) := by
 unfold seeCell at h
 split at h
 ·exact ⟨_, h, fun u hu => by obtain ⟨rfl, h1⟩ := hu; exact .s h1, fun i hi => by simp [seenA] at hi⟩
 ·exact ⟨_, h, fun u hu => Rd.more (c := .sl _ _) hu fun k hk => .inl hk, fun i hi => by simp [seenA] at hi⟩
 ·rename_i id
  obtain ⟨b, hb, h⟩ := run_get h
  split at h
  ·refine ⟨_, h, fun u hu => ?_, fun i hi => by simp [seenA] at hi; subst hi; exact ⟨_, _, _, hb⟩⟩
   obtain rfl := hu.2.2 _ _ _ hb
   exact Top.rd (hM.bl id _ hb) (fun k hk => .inl hk) (fun k hk => .inr ⟨id, by simp [seenA], ⟨_, hb⟩, hk⟩)
  ·cases h
 ·rename_i id lo k0
  obtain ⟨b, hb, h⟩ := run_get h
  split at h
  ·rename_i d e xs
   refine ⟨_, h, fun u hu => ?_, fun i hi => by simp [seenA] at hi; subst hi; exact ⟨_, _, _, hb⟩⟩
   obtain ⟨hlo, rfl⟩ := hu.2.2 _ _ _ hb
   have hrd : Rd E w (SeenI G m [id]) (G.hd id) (.sl e xs) := Top.rd (hM.bl id _ hb) (fun k hk => .inl hk) (fun k hk => .inr ⟨id, by simp, ⟨_, hb⟩, hk⟩)
   show Rd E w (SeenI G m [id]) _ _
   have hfo := hM.bl id _ hb
   generalize hv : G.hd id = v at hrd hfo
   cases hrd with
   | @sl A nn cap _ _ val hn hc hm ha hw hr =>
    subst hn
    have hlen : ((xs.drop lo).take k0).length = k0 := by simp; omega
    refine .sl (val := fun x y => val (lo + x) y) hlen.symm (by omega) (by omega) (fun hk => ?_) (fun x y hx hy => ?_) (fun x y hx hy => ?_)
    ·rw [if_neg (by omega)]
     have := ha (by omega)
     cases A <;> simp_all
    ·rw [if_neg (by omega)]
     obtain ⟨ad, rfl⟩ := Option.isSome_iff_exists.1 (ha (by omega))
     obtain ⟨g1, g2⟩ := hw (lo + x) y (by omega) hy
     refine ⟨by simpa [Addr.add_block] using g1, ?_⟩
     simp only [Option.map_some, Option.getD_some] at g2 ⊢
     rw [Addr.add_add, ← Nat.add_assoc, ← Nat.add_mul]
     exact g2
    ·have hg : ((xs.drop lo).take k0).getD x (E.dflt e) = xs.getD (lo + x) (E.dflt e) := by
      simp only [List.getD_eq_getElem?_getD, List.getElem?_take, List.getElem?_drop]
      rw [if_pos (by omega)]
     rw [hg]
     exact hr (lo + x) y (by omega) hy
  ·cases h
 ·cases h
theorem seeCells_sound (hM : Mr E w0 Φ I0 G m n w) : ∀ {as : List (A1 E)} {k : List (Cell E.T) → Mp E}, (seeCells as k).run m K = some r →
  ∃ cs, (k cs).run m K = some r ∧ cs.length = as.length ∧ (∀ (j : Nat) (b : A1 E) (c : Cell E.T), as[j]? = some b → cs[j]? = some c → ∀ u, A1r E G w m n b u → Rd E w (SeenI G m (seenL as)) u c) ∧ ∀ i ∈ seenL as, ∃ d e xs, look m i = some (.row d e xs)
 | [], k, h => ⟨[], h, rfl, fun j b c hj => by simp at hj, fun i hi => by simp [seenL] at hi⟩
 | b :: as, k, h => by
  simp only [seeCells] at h
  obtain ⟨c, h, hc, hs1⟩ := seeCell_sound hM h
  obtain ⟨cs, h, hl, hcs, hs2⟩ := seeCells_sound hM h
  refine ⟨c :: cs, h, by simp [hl], fun j b' c' hj hj' u hu => ?_, fun i hi => by simp only [seenL, List.mem_append] at hi; exact hi.elim (hs1 i) (hs2 i)⟩
  cases j with
  | zero => simp at hj hj'; subst hj; subst hj'; exact (hc u hu).more fun k hk => hk.mono fun i hi => by simp [seenL, hi]
  | succ j => exact (hcs j b' c' (by simpa using hj) (by simpa using hj') u hu).more fun k hk => hk.mono fun i hi => by simp [seenL, hi]
def P2r (E : Env) (G : Gh) (w : World) (m : Mem E) (I : Nat → Prop) (a : AV E) : P2 E → Value → Prop
 | .v (.c c), u => Rd E w I u c
 | .v (.ptr cs), u => ∃ id bs, a = .v (.c (.bp id 0)) ∧ look m id = some (.box bs) ∧ u = .pointer (some ⟨G.bk id, 0, none⟩) ∧ BoxR E w I (G.bk id) cs ∧ G.fp id (G.bk id)
 | .v (.ro e x), u => ∃ ad : Addr, u = .pointer (some (ad.add 0)) ∧ ElemAt E w I ad e x
 | .v (.fn f xs), u => FnpR E w I f xs u
 | .g cs, u => ∃ arr, u = .agg arr ∧ arr.size = cs.length ∧ ∀ (l : Nat) (c : Cell E.T), cs[l]? = some c → Rd E w I (arr.getD l undef) c
theorem P2r.more {I I' : Nat → Prop} {b : AV E} {p : P2 E} {u : Value} (h : P2r E G w m I b p u) (hi : ∀ k, I k → I' k) : P2r E G w m I' b p u := by
 cases p with
 | v p =>
  cases p with
  | c c => exact Rd.more h hi
  | ptr cs =>
   obtain ⟨id, bs, h1, h2, h3, ⟨arr, ty, h4, h5, h6⟩, h7⟩ := h
   exact ⟨id, bs, h1, h2, h3, ⟨arr, ty, h4, h5, fun j c hj => (h6 j c hj).more hi⟩, h7⟩
  | ro e x => obtain ⟨ad, h1, h2⟩ := h; exact ⟨ad, h1, h2.keep fun k hk => ⟨hi k hk, rfl⟩⟩
  | fn f xs => exact FnpR.keep h fun k hk => ⟨hi k hk, rfl⟩
 | g cs =>
  obtain ⟨arr, h1, h2, h3⟩ := h
  exact ⟨arr, h1, h2, fun l c hl => (h3 l c hl).more hi⟩
theorem handIn_sound (hM : Mr E w0 Φ I0 G m n w) {x : A2 E} {k : P2 E → Mp E} (h : (handIn x k).run m K = some r) :
  ∃ p, (k p).run m K = some r ∧ (∀ u, A2r E G w m n x u → P2r E G w m (SeenI G m (seenV m (.v x))) (.v x) p u) ∧ (∀ i ∈ seenV m (.v x), ∃ d e xs, look m i = some (.row d e xs)) ∧ ∀ id, x = .c (.bp id 0) → ∃ cs bs, p = .v (.ptr cs) ∧ look m id = some (.box bs) := by
 unfold handIn at h
 split at h
 ·rename_i id
  obtain ⟨b, hb, h⟩ := run_get h
  split at h
  ·rename_i bs
   obtain ⟨cs, h, hl, hcs, hs⟩ := seeCells_sound hM h
   refine ⟨_, h, fun u hu => ?_, by simpa [seenV, hb] using hs, fun id' e => by cases e; exact ⟨_, _, rfl, hb⟩⟩
   obtain ⟨⟨arr, ty, h1, h2⟩, h3⟩ := hM.bl id _ hb
   refine ⟨id, bs, rfl, hb, hu.2.2 _ hb, ⟨arr, ty, h1, by rw [h2.1, hl], fun j c hj => ?_⟩, h3⟩
   have hjl : j < bs.length := by rw [← hl]; exact (List.getElem?_eq_some_iff.1 hj).1
   have := hcs j _ c (List.getElem?_eq_getElem hjl) hj _ (h2.2 j _ (List.getElem?_eq_getElem hjl)).1
   simpa [seenV, hb] using this
  ·cases h
 ·rename_i e x
  exact ⟨_, h, fun u hu => by obtain ⟨ad, h1, h2⟩ := hu; exact ⟨ad, h1, h2.keep fun k hk => ⟨.inl hk, rfl⟩⟩, fun i hi => by simp [seenV, seenA] at hi, fun id e => by cases e⟩
 ·rename_i g xs
  exact ⟨_, h, fun u hu => FnpR.keep (I := G.I) hu fun k hk => ⟨.inl hk, rfl⟩, fun i hi => by simp [seenV, seenA] at hi, fun id e => by cases e⟩
 ·rename_i b hne _ _
  obtain ⟨c, h, hc, hs⟩ := seeCell_sound hM h
  have : seenV m (.v (.c b)) = seenA b := by
   unfold seenV
   split
   ·rename_i id heq; cases heq; exact absurd rfl (hne id)
   ·rename_i heq; cases heq; rfl
   ·rename_i heq; cases heq
   ·rename_i heq; cases heq
  rw [this]
  exact ⟨_, h, fun u hu => hc u hu, hs, fun id e => by cases e; exact absurd rfl (hne id)⟩
 ·rename_i bs
  obtain ⟨cs, h, hl, hcs, hs⟩ := seeCells_sound hM h
  refine ⟨_, h, fun u hu => ?_, hs, fun id e => by cases e⟩
  obtain ⟨arr, rfl, h2⟩ := hu
  refine ⟨arr, rfl, by rw [h2.1, hl], fun l c hc => ?_⟩
  have hjl : l < bs.length := by rw [← hl]; exact (List.getElem?_eq_some_iff.1 hc).1
  exact hcs l _ c (List.getElem?_eq_getElem hjl) hc _ (h2.2 l _ (List.getElem?_eq_getElem hjl)).1
theorem handIns_sound (hM : Mr E w0 Φ I0 G m n w) : ∀ {as : List (AV E)} {k : List (P2 E) → Mp E}, (handIns as k).run m K = some r →
  ∃ ps, (k ps).run m K = some r ∧ ps.length = as.length ∧ (∀ (j : Nat) (b : AV E) (p : P2 E), as[j]? = some b → ps[j]? = some p → ∀ u, AVr E G w m n b u → P2r E G w m (SeenI G m (seenVs m as)) b p u) ∧ (∀ i ∈ seenVs m as, ∃ d e xs, look m i = some (.row d e xs)) ∧ ∀ (j id : Nat), as[j]? = some (.v (.c (.bp id 0))) → ∃ cs bs, ps[j]? = some (.v (.ptr cs)) ∧ look m id = some (.box bs)
 | [], k, h => ⟨[], h, rfl, fun j b c hj => by simp at hj, fun i hi => by simp [seenVs] at hi, fun j id hj => by simp at hj⟩
 | .v x :: as, k, h => by
  simp only [handIns] at h
  obtain ⟨p, h, hp, hs1, hq1⟩ := handIn_sound hM h
  obtain ⟨ps, h, hl, hps, hs2, hq2⟩ := handIns_sound hM h
  refine ⟨p :: ps, h, by simp [hl], fun j b c hj hj' u hu => ?_, fun i hi => by simp only [seenVs, List.mem_append] at hi; exact hi.elim (hs1 i) (hs2 i), fun j id hj => by
   cases j with
   | zero => simp at hj; subst hj; obtain ⟨cs, bs, e1, e2⟩ := hq1 id rfl; exact ⟨cs, bs, by simp [e1], e2⟩
   | succ j => obtain ⟨cs, bs, e1, e2⟩ := hq2 j id (by simpa using hj); exact ⟨cs, bs, by simpa using e1, e2⟩⟩
  cases j with
  | zero => simp at hj hj'; subst hj; subst hj'; exact (hp u hu).more fun k hk => hk.mono fun i hi => by simp [seenVs, hi]
  | succ j => exact (hps j b c (by simpa using hj) (by simpa using hj') u hu).more fun k hk => hk.mono fun i hi => by simp [seenVs, hi]
 | .tup _ :: as, k, h => by simp only [handIns] at h; cases h
end
end Go.B
