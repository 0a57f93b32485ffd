/- Regions, branches, loops: what the reckoner says of the program's code. -/
import Derived.Test.YtepfpdaehcmblaaBOp
import Derived.Test.YtepfpdaehcmblaaBWr2
namespace Go.B
open Go Go.RowKit
set_option linter.unusedVariables false
set_option linter.unusedSimpArgs false
variable {E : Env} {P : Program}
section
variable {R : Type} {G : Gh} {w w0 w1 w' : World} {m m' m1 m2 : Mem E} {n : Nat} {r : R} {Φ Ψ : Nat → Prop} {I0 : Ent} {ts : List (AV E)} {a : Act} {Q : Exit → Act → World → Prop}
theorem Tr.setT (h : Tr E G ts m n a w) (t : Nat) {x : AV E} (hx : AVr E G w m n x (a.tmps.getD t undef)) : Tr E G (setl ts t x) m n a w := by
 refine ⟨h.df, by simp [setl_eq, h.sz], fun t' y hy => ?_⟩
 rw [setl_eq, List.getElem?_set] at hy
 split at hy
 ·rename_i e; subst e
  split at hy
  ·cases hy; exact hx
  ·cases hy
 ·exact h.tm t' y hy
theorem Tr.get (h : Tr E G ts m n a w) {t : Nat} {x : AV E} (hx : geta ts t = some x) : a.tmps[t]? = some (a.tmps.getD t undef) ∧ AVr E G w m n x (a.tmps.getD t undef) := by
 rw [geta_eq] at hx
 have hl : t < a.tmps.size := by rw [h.sz]; exact (List.getElem?_eq_some_iff.1 hx).1
 refine ⟨by rw [Array.getD_eq_getD_getElem?, Array.getElem?_eq_getElem hl]; rfl, h.tm t x hx⟩
theorem undef_rel : AVr E G w m n (.tup []) undef := ⟨#[], rfl, rfl, fun j b hj => by simp at hj⟩
theorem pdOf_sound {C : FuncId → Option (Entry E)} {o : Oper} {rest : List Oper} {p : Pd} (h : pdOf C o rest ts m = some p) :
  o.guard = none ∧ o.dst = some p.t ∧ (∃ y, geta ts p.t = some y) ∧ ∃ ty x e xs e' ys q, o.op = .load ty x ∧ Aeval ts x = .v (.c (.rp p.id p.i p.off)) ∧ look m p.id = some (.row true e xs) ∧ geta (E.cells e (xs.getD p.i (E.dflt e))) p.off = some (.sl e' ys) ∧ E.info ty = some q ∧ q.agg = false := by
 unfold pdOf at h
 split at h
 ·rename_i t ty x h1 h2 h3
  split at h
  ·rename_i id i off h4
   split at h
   ·rename_i e xs h5
    split at h
    ·rename_i e' ys h6
     split at h
     ·rename_i q h7
      split at h
      ·rename_i y h8 h9 h10
       cases h
       exact ⟨h1, h2, ⟨y, h10⟩, ty, x, e, xs, e', ys, q, h3, h4, h5, h6, h7, h8⟩
      ·cases h
     ·cases h
    ·cases h
   ·cases h
  ·cases h
 ·cases h
theorem posW_sound {W : List (Nat × Nat)} {args : List Operand} {t : Tmp} {q : Nat} (h : posW W args t = some q) : args[q]? = some (.tmp t) := by
 unfold posW at h
 split at h
 ·rename_i p
  split at h
  ·rename_i x hx
   split at h
   ·rename_i ht
    cases h
    rw [geta_eq] at hx
    rw [hx]
    cases x with
    | tmp u => simp only [isTmp, Nat.beq_eq] at ht; rw [ht]
    | _ => simp [isTmp] at ht
   ·cases h
  ·cases h
 ·cases h
theorem wrOp_mv {C : FuncId → Option (Entry E)} {o : Oper} {pd : Option Pd} {x : Operand} {p : Pd} (h : wrOp C o pd = .mv x p) : o.guard = none ∧ o.op = .move x ∧ pd = some p ∧ ∃ t, o.dst = some t ∧ t ≠ p.t := by
 unfold wrOp at h
 split at h
 ·cases h
 ·rename_i hg
  split at h
  ·rename_i x' hx
   split at h
   ·rename_i p'
    split at h
    ·rename_i t ht
     split at h
     ·cases h
     ·rename_i hne
      cases h
      exact ⟨hg, hx, rfl, t, ht, Nat.ne_of_beq_eq_false hne⟩
    ·cases h
   ·cases h
  ·split at h
   ·split at h
    ·split at h
     ·cases h
     ·split at h
      ·split at h <;> cases h
      ·cases h
    ·cases h
   ·cases h
  ·cases h
theorem wrOp_w {C : FuncId → Option (Entry E)} {o : Oper} {pd : Option Pd} {f : FuncId} {en : Entry E} {c : Go.Call} (h : wrOp C o pd = .w f en c) : o.guard = none ∧ o.op = .call c ∧ c.callee = .value (.func f) ∧ C f = some en := by
 unfold wrOp at h
 split at h
 ·cases h
 ·rename_i hg
  split at h
  ·split at h
   ·split at h
    ·split at h <;> cases h
    ·cases h
   ·cases h
  ·rename_i c' hc
   split at h
   ·rename_i f' hf
    split at h
    ·rename_i en' hen
     split at h
     ·cases h
     ·split at h
      ·split at h
       ·cases h
       ·cases h; exact ⟨hg, hc, hf, hen⟩
      ·cases h; exact ⟨hg, hc, hf, hen⟩
    ·cases h
   ·cases h
  ·cases h
theorem wrOp_p {C : FuncId → Option (Entry E)} {o : Oper} {pd : Option Pd} {f : FuncId} {en : Entry E} {c : Go.Call} {q : Nat} {p : Pd} (h : wrOp C o pd = .p f en c q p) : o.guard = none ∧ o.op = .call c ∧ c.callee = .value (.func f) ∧ C f = some en ∧ pd = some p ∧ c.args.toList[q]? = some (.tmp p.t) := by
 unfold wrOp at h
 split at h
 ·cases h
 ·rename_i hg
  split at h
  ·split at h
   ·split at h
    ·split at h <;> cases h
    ·cases h
   ·cases h
  ·rename_i c' hc
   split at h
   ·rename_i f' hf
    split at h
    ·rename_i en' hen
     split at h
     ·cases h
     ·split at h
      ·rename_i p'
       split at h
       ·rename_i q' hq
        cases h
        exact ⟨hg, hc, hf, hen, rfl, posW_sound hq⟩
       ·cases h
      ·cases h
    ·cases h
   ·cases h
  ·cases h
theorem putK_get {a : Act} {d t : Nat} (hne : d ≠ t) (u : Value) : (a.put (some d) u).tmps.getD t undef = a.tmps.getD t undef := by
 simp only [Act.put, Array.getD_eq_getD_getElem?, Array.getElem?_setIfInBounds, if_neg hne]
theorem PdOK.put {a : Act} {p : Pd} (h : PdOK E G m a w p) {d : Nat} (hne : d ≠ p.t) (u : Value) : PdOK E G m (a.put (some d) u) w p := by
 obtain ⟨e, xs, h1, h2, h3, g, L, cap, h4, h5⟩ := h
 exact ⟨e, xs, h1, h2, h3, g, L, cap, h4, by rw [putK_get hne]; exact h5⟩
theorem pd_load (hE : EnvOK E P) (hM : Mr E w0 Φ I0 G m n w) (hT : Tr E G ts m n a w) {C : FuncId → Option (Entry E)} {o : Oper} {rest : List Oper} {p : Pd} (h : pdOf C o rest ts m = some p) :
  ∃ v, (execOp a.eval o).run P w = .ok (.value v) w ∧ PdOK E G m (a.put o.dst v) w p := by
 obtain ⟨h1, h2, ⟨y, hy⟩, ty, x, e, xs, e', ys, q, h3, h4, h5, h6, h7, h8⟩ := pdOf_sound h
 have hx := Aeval_rel hT x
 rw [h4] at hx
 obtain ⟨hi, g, L, cap, hhd, hu⟩ := hx.2.2 _ _ _ h5
 obtain ⟨inner, Fo, ho, hbk, hf, hd, hr⟩ : Top E w G.I true (G.fp p.id) (G.hd p.id) e xs := hM.bl p.id _ h5
 have hoff : p.off < E.sz e := by
  rw [geta_eq] at h6
  have hl := (List.getElem?_eq_some_iff.1 h6).1
  rcases hE.len e (xs.getD p.i (E.dflt e)) with h | h <;> omega
 obtain ⟨g', cap', hv', hle, hcell⟩ := ownsG_cell ho (p.i * E.sz e + p.off) (lt_of_pair hi hoff)
 rw [hhd] at hv'
 injection hv' with q1 q2 q3
 cases q1
 rw [add_plain] at hcell
 refine ⟨inner.getD (p.i * E.sz e + p.off) undef, ?_, e, xs, h5, hi, hoff, g, L, cap, hhd, ?_⟩
 ·simp only [execOp, h3]
  rw [hu]
  simp only [Instr.loadAt, Instr.sureAddr]
  simp only [loadVar, Sem.run_bind, Sem.run_pure, Sem.run_map, Result.andThen_ok, hE.isAgg w h7, h8, Bool.false_eq_true, if_false, run_load, hcell]
 ·rw [h2]
  rw [geta_eq] at hy
  have hl : p.t < a.tmps.size := by rw [hT.sz]; exact (List.getElem?_eq_some_iff.1 hy).1
  have : (a.put (some p.t) (inner.getD (p.i * E.sz e + p.off) undef)).tmps.getD p.t undef = inner.getD (p.i * E.sz e + p.off) undef := by
   simp only [Act.put, Array.getD_eq_getD_getElem?, Array.getElem?_setIfInBounds, if_true, hl, Option.getD_some]
  rw [this]; exact hcell
theorem enter_run {C : FuncId → Option (Entry E)} (hC : CSound E P C) {o : Oper} {c : Go.Call} {f : FuncId} {en : Entry E} (h1 : o.op = .call c) (h2 : c.callee = .value (.func f)) (h3 : C f = some en) (a : Act) (w : World) : (execOp a.eval o).run P w = .ok (.enter f (c.args.map a.eval)) w := by
 obtain ⟨hs, fn, hfn, hname, hbody⟩ := hC f en h3
 have h1' : ¬ fn.name = "runtime.NumGoroutine" := by simpa using hname
 have h2' : ¬ fn.body = none := by cases hb : fn.body <;> simp_all
 simp [execOp, h1, resolve, h2, Act.eval, Deferred.ofValue, invoke, callFunc, hfn, h1', h2']
theorem args_rel {c : Go.Call} (hT : Tr E G ts m n a w) (j : Nat) (b : AV E) (hj : (c.args.toList.map (Aeval ts))[j]? = some b) : AVr E G w m n b ((c.args.map a.eval).getD j undef) := by
 obtain ⟨x, hx, rfl⟩ := map_get _ _ _ hj
 have : (c.args.map a.eval).getD j undef = a.eval x := by
  have hx' : c.args[j]? = some x := by rw [← Array.getElem?_toList]; exact hx
  rw [Array.getD_eq_getD_getElem?, Array.getElem?_map, hx']; rfl
 rw [this]
 exact Aeval_rel hT x
theorem evOps_sound [GlobOK E w0 Φ I0] (hE : EnvOK E P) {C : FuncId → Option (Entry E)} (hC : CSound E P C) {ops : Array Oper} {K : List (AV E) → Mem E → Nat → Option R}
  (hK : ∀ ts m n G a w, K ts m n = some r → Mr E w0 Φ I0 G m n w → Tr E G ts m n a w → Q .normal a w) :
  ∀ (rest : List Oper) (i n : Nat) (ts : List (AV E)) (m : Mem E) (pd : Option Pd) (G : Gh) (a : Act) (w : World), rest = ops.toList.drop i → evOps C ops.toList rest n ts m pd K = some r → Mr E w0 Φ I0 G m n w → Tr E G ts m n a w → (∀ p, pd = some p → PdOK E G m a w p) →
   wpOps P ops Q (List.range' i rest.length) a w
 | [], i, n, ts, m, pd, G, a, w, _, h, hM, hT, hpd => hK ts m n G a w h hM hT
 | o :: rest, i, n, ts, m, pd, G, a, w, hr, h, hM, hT, hpd => by
  have ho : ops[i]? = some o := by
   have : (ops.toList.drop i)[0]? = some o := by rw [← hr]; rfl
   rw [List.getElem?_drop, Nat.add_zero] at this
   rw [← Array.getElem?_toList]; exact this
  have hrest : rest = ops.toList.drop (i + 1) := by rw [← List.drop_drop, ← hr]; rfl
  have hn1 : n ≤ n + wide := Nat.le_add_right _ _
  simp only [evOps, forceN_eq] at h
  simp only [List.length_cons, List.range'_succ, wpOps, ho]
  have go : ∀ (pd' : Option Pd) (ts' : List (AV E)) (m' : Mem E) (G' : Gh) (a' : Act) (w' : World), evOps C ops.toList rest (n + wide) ts' m' pd' K = some r → Mr E w0 Φ I0 G' m' (n + wide) w' → Tr E G' ts' m' (n + wide) a' w' → (∀ p, pd' = some p → PdOK E G' m' a' w' p) → wpOps P ops Q (List.range' (i + 1) rest.length) a' w' :=
   fun pd' ts' m' G' a' w' h1 h2 h3 h4 => evOps_sound hE hC hK rest (i + 1) (n + wide) ts' m' pd' G' a' w' hrest h1 h2 h3 h4
  have run : ∀ (ts1 : List (AV E)), Tr E G ts1 m n a w → ((evOp C n ts1 o.op).run m fun v m => putK ts1 o.dst v fun ts => evOps C ops.toList rest (n + wide) ts m none K) = some r → o.wp P a w (wpOps P ops Q (List.range' (i + 1) rest.length)) Q := fun ts1 hT1 h1 =>
   evOp_sound hE hC hM hT1 h1 fun v m' G' u w' hk h2 h3 h4 => by
    rw [putK_eq] at hk
    exact go none _ m' G' _ w' hk h2 (h3.put o.dst h4) (fun p hp => by cases hp)
  have skip : ∀ (ts1 : List (AV E)), Tr E G ts1 m n a w → (putK ts1 o.dst (.tup []) fun ts => evOps C ops.toList rest (n + wide) ts m none K) = some r → wpOps P ops Q (List.range' (i + 1) rest.length) (a.put o.dst undef) w := fun ts1 hT1 h1 => by
   rw [putK_eq] at h1
   exact go none _ m G _ w h1 (hM.to hn1) ((hT1.to hn1).put o.dst undef_rel) (fun p hp => by cases hp)
  split at h
  ·rename_i p hp
   have hg := (pdOf_sound hp).1
   have hw : Region.wanted o (yielded ops a.tmps) = true := by simp [Region.wanted, hg]
   rw [if_pos hw]
   obtain ⟨v, hrun, hpd'⟩ := pd_load (P := P) hE hM hT hp
   rw [putK_eq] at h
   refine .inl ?_
   unfold Oper.wp
   rw [hrun]
   exact go (some p) _ m G _ w h (hM.to hn1) ((hT.to hn1).put o.dst (v := .v (.c .junk)) trivial) (fun p' hp' => by cases hp'; exact hpd')
  split at h
  ·rename_i x p hmv
   obtain ⟨hg, hop, hpde, t, ht, hne⟩ := wrOp_mv hmv
   have hw : Region.wanted o (yielded ops a.tmps) = true := by simp [Region.wanted, hg]
   rw [if_pos hw]
   rw [putK_eq] at h
   refine .inl ?_
   unfold Oper.wp
   rw [show (execOp a.eval o).run P w = .ok (.value (a.eval x)) w by simp [execOp, hop]]
   refine go (some p) _ m G _ w h (hM.to hn1) ((hT.to hn1).put o.dst ((Aeval_rel hT x).keep (Mle.refl _ _ _) hn1 fun k hk => ⟨hk, rfl⟩)) (fun p' hp' => ?_)
   cases hp'
   rw [ht]
   exact (hpd p hpde).put hne _
  ·rename_i f en c hwo
   obtain ⟨hg, hop, hf, hen⟩ := wrOp_w hwo
   have hw : Region.wanted o (yielded ops a.tmps) = true := by simp [Region.wanted, hg]
   rw [if_pos hw]
   refine .inl ?_
   unfold Oper.wp
   rw [enter_run hC hop hf hen a w]
   refine (callW_sound hE (vals := c.args.map a.eval) (hC f en hen).1 hM hT (by simp) (args_rel hT) h (fin := fun u w' => wpOps P ops Q (List.range' (i + 1) rest.length) (a.put o.dst u) w') fun v m' G' u w' hk h2 h3 h4 => ?_).mono fun e w' he => ?_
   ·rw [putK_eq] at hk
    exact go none _ m' G' _ w' hk h2 (h3.put o.dst h4) (fun p hp => by cases hp)
   ·obtain ⟨u, rfl, hu⟩ := he
    exact hu
  ·rename_i f en c q p hwo
   obtain ⟨hg, hop, hf, hen, hpde, hq⟩ := wrOp_p hwo
   have hw : Region.wanted o (yielded ops a.tmps) = true := by simp [Region.wanted, hg]
   rw [if_pos hw]
   refine .inl ?_
   unfold Oper.wp
   rw [enter_run hC hop hf hen a w]
   have hql : q < c.args.toList.length := (List.getElem?_eq_some_iff.1 hq).1
   have hqv : (c.args.map a.eval).getD q undef = a.tmps.getD p.t undef := by
    have hx' : c.args[q]? = some (.tmp p.t) := by rw [← Array.getElem?_toList]; exact hq
    rw [Array.getD_eq_getD_getElem?, Array.getElem?_map, hx']; rfl
   refine (callP_sound (vals := c.args.map a.eval) hE (hC f en hen).1 hM hT (by simp) (by simpa using hql) hqv (hpd p hpde) (args_rel hT) h (fin := fun u w' => wpOps P ops Q (List.range' (i + 1) rest.length) (a.put o.dst u) w') fun v m' G' u w' hk h2 h3 h4 => ?_).mono fun e w' he => ?_
   ·rw [putK_eq] at hk
    exact go none _ m' G' _ w' hk h2 (h3.put o.dst h4) (fun p hp => by cases hp)
   ·obtain ⟨u, rfl, hu⟩ := he
    exact hu
  unfold evOper at h
  split at h
  ·rename_i hg
   have hw : Region.wanted o (yielded ops a.tmps) = true := by simp [Region.wanted, hg]
   rw [if_pos hw]
   exact .inl (run ts hT h)
  ·rename_i j want hg
   split at h
   ·rename_i oj hoj
    split at h
    ·rename_i t ht
     have hoj' : ops[j]? = some oj := by rw [geta_eq] at hoj; rw [← Array.getElem?_toList]; exact hoj
     split at h
     ·rename_i b hb
      obtain ⟨g1, g2⟩ := hT.get hb
      have hy : yielded ops a.tmps j = some b := by
       have hbv : a.tmps.getD t undef = .bool b := g2.1
       simp [yielded, hoj', ht, g1, hbv]
      have hbv : a.tmps.getD t undef = .bool b := g2.1
      split at h
      ·rename_i hbw
       subst hbw
       have hw : Region.wanted o (yielded ops a.tmps) = true := by simp [Region.wanted, hg, hy]
       rw [if_pos hw]
       rw [setlK_eq] at h
       exact .inl (run _ (hT.setT t (x := .v (.c (.s (.bool b)))) ⟨hbv, rfl⟩) h)
      ·rename_i hbw
       have hw : ¬ Region.wanted o (yielded ops a.tmps) = true := by simp [Region.wanted, hg, hy, hbw]
       rw [if_neg hw]
       rw [setlK_eq] at h
       have hb' : b = !want := by cases b <;> cases want <;> simp_all
       exact skip _ (hT.setT t (x := .v (.c (.s (.bool (!want))))) ⟨by rw [hbv, hb'], rfl⟩) h
     ·rename_i hb
      obtain ⟨g1, arr, g2, g3, _⟩ := hT.get hb
      have hy : yielded ops a.tmps j = none := by simp [yielded, hoj', ht, g1, g2]
      have hw : ¬ Region.wanted o (yielded ops a.tmps) = true := by simp [Region.wanted, hg, hy]
      rw [if_neg hw]
      exact skip ts hT h
     ·cases h
    ·cases h
   ·cases h
theorem mapAV_rel {G' : Gh} {m' : Mem E} {n' : Nat} {f : A1 E → A1 E} (hf : ∀ b u, A1r E G w m n b u → A1r E G' w m' n' (f b) u) {b : AV E} {u : Value} (h : AVr E G w m n b u) : AVr E G' w m' n' (mapAV f b) u := by
 have h2 : ∀ (x : A2 E) (u : Value), A2r E G w m n x u → A2r E G' w m' n' (mapA2 f x) u := fun x u h => by
  cases x with
  | c b => exact hf b u h
  | g cs =>
   obtain ⟨arr, rfl, h1, h2⟩ := h
   refine ⟨arr, rfl, by simp [h1], fun j b hj => ?_⟩
   rw [List.getElem?_map] at hj
   obtain ⟨b', hb', rfl⟩ := Option.map_eq_some_iff.1 hj
   exact ⟨hf b' _ (h2 j b' hb').1, (h2 j b' hb').2⟩
 cases b with
 | v x => exact h2 x u h
 | tup vs =>
  obtain ⟨arr, rfl, h1, h3⟩ := h
  refine ⟨arr, rfl, by simp [h1], fun j b hj => ?_⟩
  rw [List.getElem?_map] at hj
  obtain ⟨b', hb', rfl⟩ := Option.map_eq_some_iff.1 hj
  exact h2 b' _ (h3 j b' hb')
theorem mapT_rel {G' : Gh} {m' : Mem E} {n' : Nat} {f : A1 E → A1 E} (hf : ∀ b u, A1r E G w m n b u → A1r E G' w m' n' (f b) u) (h : Tr E G ts m n a w) : Tr E G' (ts.map (mapAV f)) m' n' a w := by
 refine ⟨h.df, by simp [h.sz], fun t x hx => ?_⟩
 rw [List.getElem?_map] at hx
 obtain ⟨y, hy, rfl⟩ := Option.map_eq_some_iff.1 hx
 exact mapAV_rel hf (h.tm t y hy)
theorem look_map (f : A1 E → A1 E) : ∀ (m : Mem E) (j : Nat), look (mapM f m) j = (look m j).map (mapB f)
 | [], j => rfl
 | (i, b) :: m, j => by
  simp only [mapM, look]
  cases decEq i j with
  | isTrue _ => rfl
  | isFalse _ => exact look_map f m j
theorem look_low (n0 : Nat) : ∀ (m : Mem E) (j : Nat), look (lowM n0 m) j = if j < n0 then look m j else none
 | [], j => by simp [lowM, look]
 | (i, b) :: m, j => by
  simp only [lowM]
  cases Nat.decLt i n0 with
  | isTrue h =>
   simp only [look]
   cases decEq i j with
   | isTrue e => subst e; simp [h]
   | isFalse e => exact look_low n0 m j
  | isFalse h =>
   simp only [look]
   rw [look_low n0 m j]
   cases decEq i j with
   | isTrue e => subst e; simp [h]
   | isFalse e => rfl
theorem keepT_get (keep : List Tmp) : ∀ (i : Nat) (ts : List (AV E)) (t : Nat) (x : AV E), (keepT keep i ts)[t]? = some x → ∃ y, ts[t]? = some y ∧ (x = y ∨ x = .v (.c .junk))
 | i, [], t, x, h => by simp [keepT] at h
 | i, y :: ts, 0, x, h => by
  simp only [keepT, List.getElem?_cons_zero, Option.some.injEq] at h
  refine ⟨y, rfl, ?_⟩
  split at h
  ·exact .inl h.symm
  ·exact .inr h.symm
 | i, y :: ts, t + 1, x, h => by
  simp only [keepT, List.getElem?_cons_succ] at h
  simpa using keepT_get keep (i + 1) ts t x h
theorem keepT_length (keep : List Tmp) : ∀ (i : Nat) (ts : List (AV E)), (keepT keep i ts).length = ts.length
 | i, [] => rfl
 | i, y :: ts => by simp [keepT, keepT_length keep (i + 1) ts]
theorem keepT_rel (keep : List Tmp) (h : Tr E G ts m n a w) : Tr E G (keepT keep 0 ts) m n a w := by
 refine ⟨h.df, by rw [keepT_length]; exact h.sz, fun t x hx => ?_⟩
 obtain ⟨y, hy, e | e⟩ := keepT_get keep 0 ts t x hx
 ·rw [e]; exact h.tm t y hy
 ·rw [e]; trivial
end
end Go.B
