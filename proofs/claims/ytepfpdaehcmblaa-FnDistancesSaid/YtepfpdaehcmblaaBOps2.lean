/- What the reckoner's plain operations say of the program's: reading, addresses, slices. -/
import Derived.Test.YtepfpdaehcmblaaBOps1
import Derived.Laws.Cells
namespace Go.B
open Go Go.RowKit
set_option linter.unusedVariables false
set_option linter.unusedSimpArgs false
variable {E : Env} {P : Program}
theorem add_plain (g j : Nat) : (⟨g, 0, none⟩ : Addr).add j = ⟨g, j, none⟩ := by unfold Addr.add; split <;> simp_all
theorem add_at (g o j : Nat) : (⟨g, o, none⟩ : Addr).add j = ⟨g, o + j, none⟩ := by unfold Addr.add; split <;> simp_all
theorem cellsA_get {sh : Bool} : ∀ {l : List (Cell E.T)} {cs : List (A1 E)}, cellsA sh l = some cs → cs.length = l.length ∧ ∀ (j : Nat) (c : A1 E), cs[j]? = some c → ∃ q : Cell E.T, l[j]? = some q ∧ cellA sh q = some c
 | [], cs, h => by
  simp only [cellsA] at h; cases h; exact ⟨rfl, fun j c hj => by simp at hj⟩
 | q :: l, cs, h => by
  simp only [cellsA] at h
  split at h
  ·rename_i a ha
   split at h
   ·rename_i as has
    cases h
    have ih := cellsA_get has
    refine ⟨by simp [ih.1], fun j c hj => ?_⟩
    cases j with
    | zero => simp at hj; subst hj; exact ⟨q, by simp, ha⟩
    | succ j => simpa using ih.2 j c (by simpa using hj)
   ·cases h
  ·cases h
theorem Rd.to_s {w : World} {I : Nat → Prop} {u v : Value} (h : Rd E w I u (.s v)) : u = v ∧ v.oneCell' = true := by cases h with | s h => exact ⟨rfl, h⟩
section
variable {R : Type} {G : Gh} {w w0 : World} {m : Mem E} {n : Nat} {K : AV E → Mem E → Option R} {r : R} {Φ : Nat → Prop} {I0 : Ent}
theorem cellA_rd {sh : Bool} {q : Cell E.T} {c : A1 E} (h : cellA sh q = some c) {u : Value} (hr : Rd E w G.I u q) : A1r E G w m n c u := by
 cases q with
 | s v => simp only [cellA] at h; cases h; exact hr.to_s
 | sl e xs =>
  simp only [cellA] at h
  split at h
  ·cases h; exact hr
  ·cases h
 | wr e xs => simp [cellA] at h
theorem outv_sound (hE : EnvOK E P) {t : TypeId} {i : TI} (hi : E.info t = some i) {off : Nat} {cs : List (A1 E)} {ad : Addr} (h : (outv i off cs).run m K = some r)
  (hc : ∀ j c, cs[j]? = some c → ∃ u, w.cell? (ad.add j) = some u ∧ A1r E G w m n c u ∧ u.oneCell' = true) :
  ∃ v u, K v m = some r ∧ (loadVar t (ad.add off)).run P w = .ok u w ∧ AVr E G w m n v u := by
 unfold outv at h
 split at h
 ·rename_i hag
  split at h
  ·rename_i hle
   have hval : ∀ j, j < i.size → ∃ c u, cs[off + j]? = some c ∧ w.cell? (ad.add (off + j)) = some u ∧ A1r E G w m n c u ∧ u.oneCell' = true := fun j hj => by
    have hl : off + j < cs.length := by omega
    obtain ⟨u, h1, h2, h3⟩ := hc (off + j) _ (List.getElem?_eq_getElem hl)
    exact ⟨_, u, List.getElem?_eq_getElem hl, h1, h2, h3⟩
   have hrun := run_loadCells (P := P) w (ad.add off) i.size (fun j => (w.cell? (ad.add (off + j))).getD undef) (fun j hj => by
    obtain ⟨c, u, _, h2, _⟩ := hval j hj
    rw [Addr.add_add, h2]; rfl)
   refine ⟨_, .agg ((List.range i.size).map fun j => (w.cell? (ad.add (off + j))).getD undef).toArray, h, ?_, ?_⟩
   ·simp only [loadVar, Sem.run_bind, hE.isAgg w hi, hag, Result.andThen_ok, if_true, hE.sizeOf w hi, hrun, Sem.run_pure]
   ·refine ⟨_, rfl, by simp [sub]; omega, fun j c hj => ?_⟩
    have hj' : j < i.size := by
     have := (List.getElem?_eq_some_iff.1 hj).1
     simp [sub] at this; omega
    obtain ⟨c', u, h1, h2, h3, h4⟩ := hval j hj'
    have hcc : c = c' := by
     simp only [sub, List.getElem?_take, hj', if_true, List.getElem?_drop] at hj
     rw [h1] at hj; exact (Option.some.inj hj).symm
    subst hcc
    have hg : (((List.range i.size).map fun j => (w.cell? (ad.add (off + j))).getD undef).toArray).getD j undef = u := by
     rw [Array.getD_eq_getD_getElem?]
     simp [List.getElem?_map, List.getElem?_range, hj', h2]
    rw [hg]
    exact ⟨h3, h4⟩
  ·cases h
 ·rename_i hag
  split at h
  ·rename_i a ha
   rw [geta_eq] at ha
   obtain ⟨u, h1, h2, h3⟩ := hc off a ha
   refine ⟨_, u, h, ?_, h2⟩
   have hag' : i.agg = false := by simpa using hag
   simp only [loadVar, Sem.run_bind, hE.isAgg w hi, hag', Result.andThen_ok, Bool.false_eq_true, if_false, run_load, h1]
  ·cases h
def cellW (d : Bool) : Cell E.T → A1 E
 | .s v => .s v
 | .sl e xs => match d with
  | true => .junk
  | false => .imm e xs
 | .wr _ _ => .junk
theorem cellsW_get {d : Bool} : ∀ {l : List (Cell E.T)} {j : Nat} {c : A1 E}, (cellsW d l)[j]? = some c → ∃ q : Cell E.T, l[j]? = some q ∧ cellW d q = c
 | [], j, c, h => by simp [cellsW] at h
 | .s v :: l, 0, c, h => ⟨_, rfl, by simpa [cellsW, cellW] using h⟩
 | .sl e xs :: l, 0, c, h => ⟨_, rfl, by
  cases d <;> simpa [cellsW, cellW] using h⟩
 | .wr e xs :: l, 0, c, h => ⟨_, rfl, by simpa [cellsW, cellW] using h⟩
 | .wr e xs :: l, j + 1, c, h => by
  obtain ⟨q, h1, h2⟩ := cellsW_get (l := l) (j := j) (by simpa [cellsW] using h)
  exact ⟨q, by simpa using h1, h2⟩
 | .s v :: l, j + 1, c, h => by
  obtain ⟨q, h1, h2⟩ := cellsW_get (l := l) (j := j) (by simpa [cellsW] using h)
  exact ⟨q, by simpa using h1, h2⟩
 | .sl e xs :: l, j + 1, c, h => by
  obtain ⟨q, h1, h2⟩ := cellsW_get (l := l) (j := j) (by simpa [cellsW] using h)
  exact ⟨q, by simpa using h1, h2⟩
theorem boolsL_get : ∀ {as : List (A1 E)} {bs : List Bool}, boolsL as = some bs → as.length = bs.length ∧ ∀ (j : Nat) (b : Bool), bs[j]? = some b → as[j]? = some (.s (.bool b))
 | [], bs, h => by simp [boolsL] at h; subst h; simp
 | .s (.bool b) :: as, bs, h => by
  simp only [boolsL] at h
  split at h
  ·rename_i bs' hbs
   cases h
   obtain ⟨h1, h2⟩ := boolsL_get hbs
   refine ⟨by simp [h1], fun j b' hj => ?_⟩
   cases j with
   | zero => simpa using hj
   | succ j => simpa using h2 j b' (by simpa using hj)
  ·cases h
 | .s (.int _ _) :: as, bs, h => by simp [boolsL] at h
 | .s (.string _) :: as, bs, h => by simp [boolsL] at h
 | .s (.slice _ _ _) :: as, bs, h => by simp [boolsL] at h
 | .imm _ _ :: as, bs, h => by simp [boolsL] at h
 | .row _ :: as, bs, h => by simp [boolsL] at h
 | .win _ _ _ :: as, bs, h => by simp [boolsL] at h
 | .bp _ _ :: as, bs, h => by simp [boolsL] at h
 | .ip _ _ _ :: as, bs, h => by simp [boolsL] at h
 | .rp _ _ _ :: as, bs, h => by simp [boolsL] at h
 | .ap _ _ _ _ :: as, bs, h => by simp [boolsL] at h
 | .rv _ :: as, bs, h => by simp [boolsL] at h
 | .vp _ _ _ :: as, bs, h => by simp [boolsL] at h
 | .hd _ _ _ :: as, bs, h => by simp [boolsL] at h
 | .hp _ _ _ _ _ :: as, bs, h => by simp [boolsL] at h
 | .junk :: as, bs, h => by simp [boolsL] at h
theorem boolsL_sub {cs : List (A1 E)} {lo k : Nat} {bs : List Bool} (h : boolsL (sub cs lo k) = some bs) : (bs ≠ [] → lo + bs.length ≤ cs.length) ∧ ∀ (x : Nat), x < bs.length → cs[lo + x]? = some (.s (.bool (bs.getD x false))) := by
 obtain ⟨h1, h2⟩ := boolsL_get h
 have h3 : ∀ (x : Nat), x < bs.length → cs[lo + x]? = some (.s (.bool (bs.getD x false))) := fun x hx => by
  have := h2 x (bs.getD x false) (by simp [List.getD, List.getElem?_eq_getElem hx])
  simp only [sub, List.getElem?_take, List.getElem?_drop] at this
  split at this
  ·exact this
  ·cases this
 refine ⟨fun hne => ?_, h3⟩
 have : 0 < bs.length := List.length_pos_iff.2 hne
 have := (List.getElem?_eq_some_iff.1 (h3 (bs.length - 1) (by omega))).1
 omega
theorem load_ap {i : TI} {p : A1 E} {u : Value} (hp : A1r E G w m n p u) (h : (loadQ i p).run m K = some r) : ∃ p', A1r E G w m n p' u ∧ (loadQ i p').run m K = some r ∧ ∀ id lo k x, p' ≠ .ap id lo k x := by
 by_cases hap : ∃ id lo k x, p = .ap id lo k x
 ·obtain ⟨id, lo, k, x, rfl⟩ := hap
  refine ⟨.bp id (lo + x), hp, ?_, by simp⟩
  simp only [loadQ] at h ⊢
  obtain ⟨b, hb, h⟩ := run_get h
  simp only [Mp.run, hb]
  split at h
  ·rename_i cs
   split at h
   ·cases h
   ·rename_i hag
    split at h
    ·rename_i bs hbs
     obtain ⟨hx, h⟩ := run_need h
     simp only [outv, if_neg hag, geta_eq, (boolsL_sub hbs).2 x hx]
     exact h
    ·cases h
  ·cases h
 ·exact ⟨p, hp, h, fun id lo k x e => hap ⟨id, lo, k, x, e⟩⟩
def cellV2 (id i j : Nat) : Cell E.T → A1 E
 | .s v => .s v
 | .sl _ _ => .hd id i j
 | .wr _ _ => .junk
theorem cellsV_get {id i : Nat} : ∀ {l : List (Cell E.T)} {j0 j : Nat} {c : A1 E}, (cellsV id i j0 l)[j]? = some c → ∃ q : Cell E.T, l[j]? = some q ∧ cellV2 id i (j0 + j) q = c
 | [], j0, j, c, h => by simp [cellsV] at h
 | q :: l, j0, 0, c, h => ⟨q, rfl, by cases q <;> simpa [cellsV, cellV2] using h⟩
 | q :: l, j0, j + 1, c, h => by
  have h' : (cellsV id i (j0 + 1) l)[j]? = some c := by cases q <;> simpa [cellsV] using h
  obtain ⟨q', h1, h2⟩ := cellsV_get h'
  exact ⟨q', by simpa using h1, by rw [← h2]; congr 1; omega⟩
theorem top_load (hE : EnvOK E P) {t : TypeId} {i : TI} (hi : E.info t = some i) {d : Bool} {fp : Nat → Prop} {v0 : Value} {e : TypeId} {xs : List (E.T e)} {j0 off g L cap : Nat} (htop : Top E w G.I d fp v0 e xs) (hj0 : j0 < xs.length)
  (hhd : v0 = .slice (some ⟨g, 0, none⟩) L cap) (h : (outv i off (cellsW d (E.cells e (xs.getD j0 (E.dflt e))))).run m K = some r) :
  ∃ v u', K v m = some r ∧ (Instr.loadAt t (.pointer (some ⟨g, j0 * E.sz e + off, none⟩))).run P w = .ok u' w ∧ AVr E G w m n v u' := by
 obtain ⟨inner, F, ho, hbk, hf, hd, hin⟩ := htop
 obtain ⟨v, u', h5, h6, h7⟩ := outv_sound (G := G) (w := w) (n := n) (ad := ⟨g, j0 * E.sz e, none⟩) hE hi h (fun j c hj => by
  obtain ⟨q, hq, hc⟩ := cellsW_get hj
  have hjl : j < (E.cells e (xs.getD j0 (E.dflt e))).length := (List.getElem?_eq_some_iff.1 hq).1
  have hjs : j < E.sz e := by rcases hE.len e (xs.getD j0 (E.dflt e)) with h0 | h0 <;> omega
  have hca : cellAt E e (xs.getD j0 (E.dflt e)) j = q := by simp [cellAt, List.getD] at hq ⊢; simp [hq]
  have hi' := hin j0 j hj0 hjs
  obtain ⟨g', cap', hv, _, hcell⟩ := ownsG_cell ho (j0 * E.sz e + j) (lt_of_pair hj0 hjs)
  rw [hhd] at hv
  cases hv
  rw [add_plain] at hcell
  refine ⟨_, by rw [add_at]; exact hcell, ?_, hi'.one⟩
  rw [hca] at hi'
  cases q with
  | s v =>
   cases hc
   cases d with
   | true =>
    unfold In at hi'
    rw [if_pos rfl] at hi'
    cases hi' with | s h => exact ⟨rfl, h⟩
   | false =>
    unfold In at hi'
    rw [if_neg (by simp)] at hi'
    exact hi'.to_s
  | sl e' ys =>
   cases hc
   cases d with
   | true => trivial
   | false =>
    unfold In at hi'
    rw [if_neg (by simp)] at hi'
    exact hi'
  | wr e' ys => cases hc; trivial)
 rw [add_at] at h6
 exact ⟨v, u', h5, by simp [Instr.loadAt, Instr.sureAddr, h6], h7⟩
theorem cell_of {e : TypeId} {x : E.T e} {off : Nat} {c : Cell E.T} (h : geta (E.cells e x) off = some c) : cellAt E e x off = c := by
 rw [geta_eq] at h
 simp [cellAt, List.getD, h]
theorem head_ow (hM : Mr E w0 Φ I0 G m n w) {id : Nat} {e : TypeId} {xs : List (E.T e)} (hb : look m id = some (.rowV e xs)) {j0 off : Nat} (hj0 : j0 < xs.length) (hoff : off < E.sz e) {e' : TypeId} {ys : List (E.T e')}
  (hca : cellAt E e (xs.getD j0 (E.dflt e)) off = .sl e' ys) : ∃ F' : Nat → Prop, Ow E w F' (G.ih id j0 off) (.sl e' ys) := by
 obtain ⟨htop, hds⟩ := hM.bl id _ hb
 obtain ⟨inner, F, ho, hbk, hf, hd, hin⟩ := htop
 have hi' := hin j0 off hj0 hoff
 obtain ⟨g, cap, hv, _, hcell⟩ := ownsG_cell ho (j0 * E.sz e + off) (lt_of_pair hj0 hoff)
 rw [add_plain] at hcell
 have := hds j0 off e' ys g _ _ hj0 hoff hca hv
 rw [this] at hcell
 rw [hca, ← Option.some.inj hcell] at hi'
 unfold In at hi'
 rw [if_pos rfl] at hi'
 exact ⟨_, hi'⟩
theorem loadQ_sound (hE : EnvOK E P) (hM : Mr E w0 Φ I0 G m n w) {t : TypeId} {i : TI} (hi : E.info t = some i) {p : A1 E} {u : Value} (hp : A1r E G w m n p u) (h : (loadQ i p).run m K = some r) :
  ∃ v u', K v m = some r ∧ (Instr.loadAt t u).run P w = .ok u' w ∧ AVr E G w m n v u' := by
 obtain ⟨p, hp, h, hnap⟩ := load_ap hp h
 unfold loadQ at h
 split at h
 ·rename_i id off
  obtain ⟨b, hb, h⟩ := run_get h
  split at h
  ·rename_i cs
   obtain ⟨⟨arr, ty, h1, h2, h3⟩, h4⟩ := hM.bl id _ hb
   obtain rfl := hp.2.2 _ hb
   obtain ⟨v, u', h5, h6, h7⟩ := outv_sound (G := G) (w := w) (n := n) (ad := ⟨G.bk id, 0, none⟩) hE hi h (fun j c hj => by
    obtain ⟨h5, h6⟩ := h3 j c hj
    have hl : j < arr.size := by rw [h2]; exact (List.getElem?_eq_some_iff.1 hj).1
    refine ⟨arr.getD j undef, ?_, h5, h6⟩
    rw [add_plain]
    simp [World.cell?, h1, Array.getD_eq_getD_getElem?, hl])
   rw [add_plain] at h6
   exact ⟨v, u', h5, by simp [Instr.loadAt, Instr.sureAddr, h6], h7⟩
  ·cases h
 ·rename_i e x off
  split at h
  ·rename_i cs hcs
   obtain ⟨ad, rfl, hx⟩ := hp
   obtain ⟨hl, hg⟩ := cellsA_get hcs
   obtain ⟨v, u', h5, h6, h7⟩ := outv_sound (G := G) (w := w) (n := n) (ad := ad) hE hi h (fun j c hj => by
    obtain ⟨q, hq, hc⟩ := hg j c hj
    have hjl : j < (E.cells e x).length := (List.getElem?_eq_some_iff.1 hq).1
    have hjs : j < E.sz e := by rcases hE.len e x with h0 | h0 <;> omega
    obtain ⟨_, v, hv, hr⟩ := hx j hjs
    have hca : cellAt E e x j = q := by simp [cellAt, List.getD, hq]
    rw [hca] at hr
    exact ⟨v, hv, cellA_rd hc hr, hr.one⟩)
   exact ⟨v, u', h5, by simp [Instr.loadAt, Instr.sureAddr, h6], h7⟩
  ·cases h
 ·rename_i id j0 off
  obtain ⟨b, hb, h⟩ := run_get h
  split at h
  ·rename_i d e xs
   obtain ⟨hj0, g, L, cap, hhd, rfl⟩ := hp.2.2 _ _ _ hb
   exact top_load hE hi (hM.bl id _ hb) hj0 hhd h
  ·cases h
 ·exact absurd rfl (hnap _ _ _ _)
 ·rename_i id j0 off
  obtain ⟨b, hb, h⟩ := run_get h
  split at h
  ·rename_i e xs
   obtain ⟨hj0, g, L, cap, hhd, rfl⟩ := hp.2.2 _ _ hb
   obtain ⟨htop, hds⟩ := hM.bl id _ hb
   obtain ⟨inner, F, ho, hbk, hf, hd, hin⟩ := htop
   obtain ⟨v, u', h5, h6, h7⟩ := outv_sound (G := G) (w := w) (n := n) (ad := ⟨g, j0 * E.sz e, none⟩) hE hi h (fun j c hj => by
    obtain ⟨q, hq, hc⟩ := cellsV_get hj
    have hjl : j < (E.cells e (xs.getD j0 (E.dflt e))).length := (List.getElem?_eq_some_iff.1 hq).1
    have hjs : j < E.sz e := by rcases hE.len e (xs.getD j0 (E.dflt e)) with h0 | h0 <;> omega
    have hca : cellAt E e (xs.getD j0 (E.dflt e)) j = q := by simp [cellAt, List.getD] at hq ⊢; simp [hq]
    have hi' := hin j0 j hj0 hjs
    obtain ⟨g', cap', hv, _, hcell⟩ := ownsG_cell ho (j0 * E.sz e + j) (lt_of_pair hj0 hjs)
    rw [hhd] at hv
    cases hv
    rw [add_plain] at hcell
    refine ⟨_, by rw [add_at]; exact hcell, ?_, hi'.one⟩
    rw [hca] at hi'
    cases q with
    | s v =>
     cases hc
     unfold In at hi'
     rw [if_pos rfl] at hi'
     cases hi' with | s h => exact ⟨rfl, h⟩
    | sl e' ys =>
     cases hc
     refine ⟨hM.lt id _ hb, hi'.one, fun e2 xs2 hl => ?_⟩
     rw [hb] at hl; cases hl
     refine ⟨hj0, by omega, ?_⟩
     have := hds j0 j e' ys g _ _ hj0 hjs hca hhd
     rw [this] at hcell
     rw [Nat.zero_add]
     exact (Option.some.inj hcell).symm
    | wr e' ys => cases hc; trivial)
   rw [add_at] at h6
   exact ⟨v, u', h5, by simp [Instr.loadAt, Instr.sureAddr, h6], h7⟩
  ·cases h
 ·rename_i id j0 off l o
  obtain ⟨b, hb, h⟩ := run_get h
  split at h
  ·rename_i e xs
   split at h
   ·rename_i e' ys hc
    obtain ⟨hl, h⟩ := run_need h
    obtain ⟨hj0, hoff, hx⟩ := hp.2.2 _ _ hb
    have hca := cell_of hc
    obtain ⟨g', L', cap', hih, rfl⟩ := hx e' ys hca
    obtain ⟨F', how⟩ := head_ow hM hb hj0 hoff hca
    exact top_load hE hi (how.top (I := G.I)) hl hih h
   ·cases h
  ·cases h
 ·cases h
end
end Go.B
