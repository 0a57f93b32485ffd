/- Regions whose order is drawn: operations that change something are ordered among themselves; what is read is not changed by what may come in another order. -/
import Derived.Test.YtildepkogbcdpaaBDraw
namespace Go.B
open Go Go.RowKit
set_option linter.unusedVariables false
set_option linter.unusedSimpArgs false
variable {E : Env} {P : Program}
section
variable {R : Type} {G : Gh} {w w0 w1 w' : World} {m m' m1 m2 : Mem E} {n : Nat} {r : R} {Φ Ψ : Nat → Prop} {I0 : Ent} {ts : List (AV E)} {a : Act} {Q : Exit → Act → World → Prop}
/-- What a run that tells its reads and writes shows. -/
theorem runE_facts : ∀ (p : Mp E) (m : Mem E) (rs ws : List Nat) {R : Type} (K : AV E → Mem E → List Nat → List Nat → Option R) (r : R), p.runE m rs ws K = some r →
    ∃ v m' rs' ws', K v m' rs' ws' = some r ∧ (∀ {R' : Type} (K' : AV E → Mem E → Option R') (r' : R'), K' v m' = some r' → p.run m K' = some r') ∧ (∀ i ∈ rs, i ∈ rs') ∧ (∀ i ∈ ws, i ∈ ws') ∧
      (∀ i, i ∉ ws' → look m' i = look m i) ∧ (ws' = [] → m' = m ∧ ∀ (m1 : Mem E), (∀ i ∈ rs', look m1 i = look m i) → ∀ {R' : Type} (K' : AV E → Option R') (r' : R'), K' v = some r' → p.runD m1 K' = some r')
  | .ret v, m, rs, ws, R, K, r, h => ⟨v, m, rs, ws, h, fun K' r' h => h, fun _ h => h, fun _ h => h, fun _ _ => rfl, fun _ => ⟨rfl, fun m1 _ _ K' r' h => h⟩⟩
  | .fail, m, rs, ws, R, K, r, h => by simp [Mp.runE] at h
  | .mem k, m, rs, ws, R, K, r, h => by simp [Mp.runE] at h
  | .guard c d k, m, rs, ws, R, K, r, h => by
    simp only [Mp.runE] at h
    by_cases hc : c
    · rw [if_pos hc] at h
      obtain ⟨v, m', rs', ws', h1, h2, h3, h4, h5, h6⟩ := runE_facts k m rs ws K r h
      exact ⟨v, m', rs', ws', h1, fun K' r' h => by simp only [Mp.run]; rw [if_pos hc]; exact h2 K' r' h, h3, h4, h5, fun hw => ⟨(h6 hw).1, fun m1 hm _ K' r' h => by simp only [Mp.runD]; rw [if_pos hc]; exact (h6 hw).2 m1 hm K' r' h⟩⟩
    · rw [if_neg hc] at h; cases h
  | .cond b k k', m, rs, ws, R, K, r, h => by
    cases b with
    | true =>
      obtain ⟨v, m', rs', ws', h1, h2, h3, h4, h5, h6⟩ := runE_facts k m rs ws K r (by simpa [Mp.runE] using h)
      exact ⟨v, m', rs', ws', h1, fun K' r' h => by simpa [Mp.run] using h2 K' r' h, h3, h4, h5, fun hw => ⟨(h6 hw).1, fun m1 hm _ K' r' h => by simpa [Mp.runD] using (h6 hw).2 m1 hm K' r' h⟩⟩
    | false =>
      obtain ⟨v, m', rs', ws', h1, h2, h3, h4, h5, h6⟩ := runE_facts k' m rs ws K r (by simpa [Mp.runE] using h)
      exact ⟨v, m', rs', ws', h1, fun K' r' h => by simpa [Mp.run] using h2 K' r' h, h3, h4, h5, fun hw => ⟨(h6 hw).1, fun m1 hm _ K' r' h => by simpa [Mp.runD] using (h6 hw).2 m1 hm K' r' h⟩⟩
  | .get id k, m, rs, ws, R, K, r, h => by
    simp only [Mp.runE] at h
    cases hl : look m id with
    | none => rw [hl] at h; cases h
    | some b =>
      rw [hl] at h
      obtain ⟨v, m', rs', ws', h1, h2, h3, h4, h5, h6⟩ := runE_facts (k b) m (id :: rs) ws K r h
      exact ⟨v, m', rs', ws', h1, fun K' r' h => by simp only [Mp.run, hl]; exact h2 K' r' h, fun i hi => h3 i (List.mem_cons_of_mem _ hi), h4, h5, fun hw => ⟨(h6 hw).1, fun m1 hm _ K' r' h => by
        simp only [Mp.runD, hm id (h3 id List.mem_cons_self), hl]
        exact (h6 hw).2 m1 hm K' r' h⟩⟩
  | .put id b k, m, rs, ws, R, K, r, h => by
    simp only [Mp.runE, forceB_eq, setmK_eq] at h
    obtain ⟨v, m', rs', ws', h1, h2, h3, h4, h5, h6⟩ := runE_facts k (setm m id b) rs (id :: ws) K r h
    refine ⟨v, m', rs', ws', h1, fun K' r' h => by simp only [Mp.run, forceB_eq, setmK_eq]; exact h2 K' r' h, h3, fun i hi => h4 i (List.mem_cons_of_mem _ hi), fun i hi => ?_, fun hw => ?_⟩
    · rw [h5 i hi, look_set]
      have : id ≠ i := fun e => hi (e ▸ h4 id List.mem_cons_self)
      rw [if_neg this]
    · have := h4 id List.mem_cons_self
      rw [hw] at this
      cases this
  | .del id k, m, rs, ws, R, K, r, h => by
    simp only [Mp.runE, delmK_eq] at h
    obtain ⟨v, m', rs', ws', h1, h2, h3, h4, h5, h6⟩ := runE_facts k (delm m id) rs (id :: ws) K r h
    refine ⟨v, m', rs', ws', h1, fun K' r' h => by simp only [Mp.run, delmK_eq]; exact h2 K' r' h, h3, fun i hi => h4 i (List.mem_cons_of_mem _ hi), fun i hi => ?_, fun hw => ?_⟩
    · rw [h5 i hi, look_del]
      have : id ≠ i := fun e => hi (e ▸ h4 id List.mem_cons_self)
      rw [if_neg this]
    · have := h4 id List.mem_cons_self
      rw [hw] at this
      cases this
  | .call x k, m, rs, ws, R, K, r, h => by
    simp only [Mp.runE] at h
    obtain ⟨y, h1, h2⟩ := Option.bind_eq_some_iff.1 h
    obtain ⟨res, hw⟩ := x.nat y h1
    rw [hw] at h2
    obtain ⟨v, m', rs', ws', g1, g2, g3, g4, g5, g6⟩ := runE_facts (k res) m rs ws K r h2
    exact ⟨v, m', rs', ws', g1, fun K' r' h => by simp only [Mp.run, h1, Option.bind_some]; rw [hw]; exact g2 K' r' h, g3, g4, g5, fun hw' => ⟨(g6 hw').1, fun m1 hm _ K' r' h => by
      simp only [Mp.runD, h1, Option.bind_some]
      rw [hw]
      exact (g6 hw').2 m1 hm K' r' h⟩⟩

/-! ### what is looked at -/
theorem evOp_congr' {C : FuncId → Option (Entry E)} {n : Nat} {ts ts' : List (AV E)} {o : Op} (h : ∀ x ∈ o.operands, Aeval ts x = Aeval ts' x) : evOp C n ts o = evOp C n ts' o := by
  by_cases hp : pureOp o = true
  · exact evOp_congr hp h
  cases o with
  | call c =>
    simp only [evOp]
    split
    · rename_i b hb
      exact evB_congr _ _ _ fun x hx => h x (by simp only [Op.operands, Call.operands, Array.mem_append]; exact .inr (by simpa using hx))
    · rename_i f hf
      split
      · rename_i en _
        rw [Aeval_congr_list c.args.toList fun x hx => h x (by simp only [Op.operands, Call.operands, Array.mem_append]; exact .inr (by simpa using hx))]
      · rfl
    · rfl
  | slice t x lo hi mx =>
    cases mx with
    | some q => rfl
    | none => exact absurd rfl hp
  | alloc _ => rfl
  | box t x => simp only [evOp]; rw [h x (by simp [Op.operands])]
  | buildSlice t m parts =>
    simp only [evOp]
    rw [a2s_congr parts.toList fun q hq => h q.2 (by simp [Op.operands]; exact ⟨q.1, by simpa using hq⟩)]
  | makeSlice t x y => simp only [evOp]; rw [h x (by simp [Op.operands]), h y (by simp [Op.operands])]
  | store t x y => simp only [evOp]; rw [h x (by simp [Op.operands]), h y (by simp [Op.operands])]
  | _ => first | rfl | exact absurd rfl hp
/-! ### one operation -/
/-- Operation o answers v and leaves m'; it reads rs and writes ws. -/
structure RunE (C : FuncId → Option (Entry E)) (m : Mem E) (n : Nat) (o : Op) (v : AV E) (m' : Mem E) (rs ws : List Nat) (ts : List (AV E)) : Prop where
  run : ∀ {R : Type} (K : AV E → Mem E → Option R) (r : R), K v m' = some r → (evOp C n ts o).run m K = some r
  same : ∀ i, i ∉ ws → look m' i = look m i
  quiet : ws = [] → pureOp o = true ∧ m' = m ∧ lowVB n v = true ∧ ∀ (m1 : Mem E), (∀ i ∈ rs, look m1 i = look m i) → ∀ (n1 : Nat) {R : Type} (K : AV E → Option R) (r : R), K v = some r → (evOp C n1 ts o).runD m1 K = some r
def YE (C : FuncId → Option (Entry E)) (ops : Array Oper) (m : Mem E) (n : Nat) (o : Oper) (v : AV E) (m' : Mem E) (rs ws : List Nat) (ts : List (AV E)) : Prop := match o.guard with
  | none => RunE C m n o.op v m' rs ws ts
  | some (j, want) => ∃ oj t, ops[j]? = some oj ∧ oj.dst = some t ∧ ((∃ b : Bool, geta ts t = some (.v (.c (.s (.bool b)))) ∧ ((b = want ∧ RunE C m n o.op v m' rs ws ts) ∨ (b ≠ want ∧ v = .tup [] ∧ m' = m ∧ rs = [] ∧ ws = []))) ∨ (geta ts t = some (.tup []) ∧ v = .tup [] ∧ m' = m ∧ rs = [] ∧ ws = []))
variable {C : FuncId → Option (Entry E)} {ops : Array Oper}
theorem RunE.congr {ts' : List (AV E)} {o : Op} {v : AV E} {rs ws : List Nat} (h : ∀ x ∈ o.operands, Aeval ts x = Aeval ts' x) (hy : RunE C m n o v m' rs ws ts) : RunE C m n o v m' rs ws ts' :=
  ⟨fun K r hk => by rw [← evOp_congr' h]; exact hy.run K r hk, hy.same, fun hw => ⟨(hy.quiet hw).1, (hy.quiet hw).2.1, (hy.quiet hw).2.2.1, fun m1 hm n1 _ K r hk => by rw [← evOp_congr' h]; exact (hy.quiet hw).2.2.2 m1 hm n1 K r hk⟩⟩
theorem YE.put {o : Oper} {v : AV E} {rs ws : List Nat} {d : Option Tmp} {u : AV E} (h : ∀ t, d = some t → t ∉ o.looksAt ops) : YE C ops m n o v m' rs ws (putT ts d u) ↔ YE C ops m n o v m' rs ws ts := by
  have h1 : ∀ x ∈ o.op.operands, Aeval (putT ts d u) x = Aeval ts x := fun x hx => Aeval_put fun t ht e => h t ht (by
    subst e
    exact List.mem_append_left _ (List.mem_filterMap.2 ⟨_, by simpa using hx, rfl⟩))
  have hE : RunE C m n o.op v m' rs ws (putT ts d u) ↔ RunE C m n o.op v m' rs ws ts := ⟨fun h => h.congr h1, fun h => h.congr fun x hx => (h1 x hx).symm⟩
  unfold YE
  split
  · exact hE
  · rename_i j want hg
    have hgt : ∀ oj t, ops[j]? = some oj → oj.dst = some t → geta (putT ts d u) t = geta ts t := fun oj t h2 h3 => geta_put fun e => h t e (List.mem_append_right _ (by
      rw [hg]; simp [h2, h3]))
    constructor
    · rintro ⟨oj, t, h2, h3, h4⟩
      rw [hgt oj t h2 h3] at h4
      exact ⟨oj, t, h2, h3, h4.imp_left fun ⟨b, h5, h6⟩ => ⟨b, h5, h6.imp_left fun ⟨h7, h8⟩ => ⟨h7, hE.1 h8⟩⟩⟩
    · rintro ⟨oj, t, h2, h3, h4⟩
      refine ⟨oj, t, h2, h3, ?_⟩
      rw [hgt oj t h2 h3]
      exact h4.imp_left fun ⟨b, h5, h6⟩ => ⟨b, h5, h6.imp_left fun ⟨h7, h8⟩ => ⟨h7, hE.2 h8⟩⟩
/-- The reckoner's step. -/
theorem YE_of {o : Oper} {K : List (AV E) → Mem E → Nat → Lg E → Option R} (h : evOperE C ops.toList o n ts m K = some r) :
    ∃ v m' rs ws, YE C ops m n o v m' rs ws ts ∧ (ws = [] → m' = m ∧ lowVB n v = true) ∧ K (putT ts o.dst v) m' (if ws = [] then n else n + wide) ⟨rs, ws, n, v⟩ = some r := by
  have ev : oneE C o n ts m K = some r → ∃ v m' rs ws, RunE C m n o.op v m' rs ws ts ∧ (ws = [] → m' = m ∧ lowVB n v = true) ∧ K (putT ts o.dst v) m' (if ws = [] then n else n + wide) ⟨rs, ws, n, v⟩ = some r := fun h => by
    unfold oneE at h
    obtain ⟨v, m', rs, ws, h1, h2, _, _, h5, h6⟩ := runE_facts _ m [] [] _ r h
    refine ⟨v, m', rs, ws, ?_⟩
    cases ws with
    | nil =>
      simp only at h1
      split at h1
      · rename_i hp hl
        rw [putK_eq] at h1
        obtain ⟨h7, h8⟩ := h6 rfl
        subst h7
        exact ⟨⟨h2, h5, fun _ => ⟨hp, rfl, hl, fun m1 hm n1 _ K r hk => by rw [evOp_n n1 n ts o.op hp]; exact h8 m1 hm K r hk⟩⟩, fun _ => ⟨rfl, hl⟩, by simpa using h1⟩
      · cases h1
    | cons x ws =>
      simp only [putK_eq, forceN_eq] at h1
      exact ⟨⟨h2, h5, fun h => (by cases h)⟩, fun h => (by cases h), by simpa using h1⟩
  have skip : K (putT ts o.dst (.tup [])) m n ⟨[], [], n, .tup []⟩ = some r → ∃ v m' rs ws, (v = .tup [] ∧ m' = m ∧ rs = [] ∧ ws = []) ∧ (ws = [] → m' = m ∧ lowVB n v = true) ∧ K (putT ts o.dst v) m' (if ws = [] then n else n + wide) ⟨rs, ws, n, v⟩ = some r := fun h =>
    ⟨_, _, _, _, ⟨rfl, rfl, rfl, rfl⟩, fun _ => ⟨rfl, rfl⟩, by simpa using h⟩
  unfold evOperE at h
  unfold YE
  split at h
  · rename_i hg
    rw [hg]
    exact ev h
  · rename_i j want hg
    rw [hg]
    split at h
    · rename_i oj hoj
      have hoj' : ops[j]? = some oj := by rw [geta_eq] at hoj; rw [← Array.getElem?_toList]; exact hoj
      split at h
      · rename_i t ht
        split at h
        · rename_i b hb
          split at h
          · rename_i hbw
            subst hbw
            rw [setlK_eq, setl_same hb] at h
            obtain ⟨v, m', rs, ws, h1, h2⟩ := ev h
            exact ⟨v, m', rs, ws, ⟨oj, t, hoj', ht, .inl ⟨b, hb, .inl ⟨rfl, h1⟩⟩⟩, h2⟩
          · rename_i hbw
            have hb' : b = !want := by cases b <;> cases want <;> simp_all
            subst hb'
            rw [setlK_eq, setl_same hb, putK_eq] at h
            obtain ⟨v, m', rs, ws, h1, h2⟩ := skip h
            exact ⟨v, m', rs, ws, ⟨oj, t, hoj', ht, .inl ⟨_, hb, .inr ⟨hbw, h1⟩⟩⟩, h2⟩
        · rename_i hb
          rw [putK_eq] at h
          obtain ⟨v, m', rs, ws, h1, h2⟩ := skip h
          exact ⟨v, m', rs, ws, ⟨oj, t, hoj', ht, .inr ⟨hb, h1⟩⟩, h2⟩
        · cases h
      · cases h
    · cases h
/-! ### whatever order is drawn -/
/-- An operation's answer, told of its place. -/
abbrev Tells (E : Env) := Nat → Oper → AV E → List (AV E) → Prop
def stY (ops : Array Oper) (Y : Tells E) (i : Nat) (K : List (AV E) → Prop) (ts : List (AV E)) : Prop := match ops[i]? with
  | none => K ts
  | some o => ∃ v, Y i o v ts ∧ K (putT ts o.dst v)
def anyY (ops : Array Oper) (Y : Tells E) (Q : Array Bool → List (AV E) → Prop) : Nat → Array Bool → List (AV E) → Prop
  | 0, listed, ts => Region.ready .any ops listed = [] ∧ Q listed ts
  | fuel + 1, listed, ts => (Region.ready .any ops listed = [] → Q listed ts) ∧ ∀ i ∈ Region.ready .any ops listed, stY ops Y i (anyY ops Y Q fuel (listed.setIfInBounds i true)) ts
def Puts (ops : Array Oper) (Y : Tells E) : Prop := ∀ (i : Nat) (o : Oper) (v u : AV E) (d : Option Tmp) (ts : List (AV E)), (∀ t, d = some t → t ∉ o.looksAt ops) → (Y i o v (putT ts d u) ↔ Y i o v ts)
theorem stY_put {Y : Tells E} (hP : Puts ops Y) {i j : Nat} {oi oj : Oper} {v : AV E} (hj : ops[j]? = some oj) (hap : oi.apart ops oj = true) {K : List (AV E) → Prop} {ts : List (AV E)}
    (hy : Y i oi v ts) (h : stY ops Y j K (putT ts oi.dst v)) : stY ops Y j (fun ts' => Y i oi v ts' ∧ K (putT ts' oi.dst v)) ts := by
  obtain ⟨h1, h2, h3⟩ := Oper.apart_spec hap
  unfold stY at *
  simp only [hj] at *
  obtain ⟨u, hu, hk⟩ := h
  exact ⟨u, (hP _ _ _ _ _ _ h1).1 hu, (hP _ _ _ _ _ _ h3).2 hy, by rw [put_comm fun t ht ht' => h2 t ht' ht]; exact hk⟩
theorem stY_mono {Y : Tells E} {i : Nat} {K K' : List (AV E) → Prop} {ts : List (AV E)} (h : ∀ ts, K ts → K' ts) (hh : stY ops Y i K ts) : stY ops Y i K' ts := by
  unfold stY at *
  split
  · rename_i hi; simp only [hi] at hh; exact h _ hh
  · rename_i o hi; simp only [hi] at hh; obtain ⟨v, h1, h2⟩ := hh; exact ⟨v, h1, h _ h2⟩
theorem anyY_first {Y : Tells E} (hP : Puts ops Y) {Q : Array Bool → List (AV E) → Prop} {i : Nat} {oi : Oper} {v : AV E} (hi : ops[i]? = some oi) :
    ∀ (fuel : Nat) (listed : Array Bool) (ts : List (AV E)),
      (∀ j oj, ops[j]? = some oj → j ≠ i → listed.getD j true = false → (∀ e ∈ oj.after, Region.binds .any e = true → e.on ≠ i) → oi.apart ops oj = true) →
      i ∈ Region.ready .any ops listed → Y i oi v ts →
      anyY ops Y Q fuel (listed.setIfInBounds i true) (putT ts oi.dst v) → anyY ops Y Q (fuel + 1) listed ts := by
  intro fuel
  induction fuel with
  | zero =>
    intro listed ts _ hr hy H
    refine ⟨fun h => (by rw [h] at hr; cases hr), fun j hj => ?_⟩
    by_cases hji : j = i
    · subst hji; unfold stY; simp only [hi]; exact ⟨v, hy, H⟩
    · have := ready_mono hj hji
      rw [H.1] at this
      cases this
  | succ fuel ih =>
    intro listed ts hfree hr hy H
    refine ⟨fun h => (by rw [h] at hr; cases hr), fun j hj => ?_⟩
    by_cases hji : j = i
    · subst hji; unfold stY; simp only [hi]; exact ⟨v, hy, H⟩
    · have h1 := H.2 j (ready_mono hj hji)
      obtain ⟨hjun, oj, hoj, hall⟩ := mem_ready.1 hj
      have hnot : ∀ e ∈ oj.after, Region.binds .any e = true → e.on ≠ i := fun e he hb heq => by
        have h1 := hall e he hb
        have h0 := (mem_ready.1 hr).1
        rw [heq] at h1
        rcases Nat.lt_or_ge i listed.size with h' | h'
        · simp [h'] at h0 h1; rw [h0] at h1; cases h1
        · simp [Array.getElem?_eq_none h'] at h1
      have h2 := stY_put hP hoj (hfree j oj hoj hji hjun hnot) hy h1
      have hfree' : ∀ k ok, ops[k]? = some ok → k ≠ i → (listed.setIfInBounds j true).getD k true = false →
          (∀ e ∈ ok.after, Region.binds .any e = true → e.on ≠ i) → oi.apart ops ok = true := fun k ok hk hki hun hno => by
        refine hfree k ok hk hki ?_ hno
        by_cases hjk : j = k
        · subst hjk; exact hjun
        · rw [getD_set_ne true hjk] at hun; exact hun
      refine stY_mono (fun ts' h3 => ih (listed.setIfInBounds j true) ts' hfree' (ready_mono hr (Ne.symm hji)) h3.1 ?_) h2
      rw [Array.setIfInBounds_comm _ _ hji]
      exact h3.2
/-- In the order of the text. -/
def seqY (Y : Tells E) (Q : List (AV E) → Prop) : List Oper → Nat → List (AV E) → Prop
  | [], _, ts => Q ts
  | o :: l, k, ts => ∃ v, Y k o v ts ∧ seqY Y Q l (k + 1) (putT ts o.dst v)
theorem anyY_lex {Y : Tells E} (hP : Puts ops Y) {Q : List (AV E) → Prop} : ∀ (l : List Oper) (k : Nat) (listed : Array Bool) (ts : List (AV E)), (∀ j, l[j]? = ops[k + j]?) → (∀ j, j < k → listed.getD j true = true) →
    Region.lexFrom .any ops l.length k listed = true → seqY Y Q l k ts → anyY ops Y (fun listed ts => (∀ j, j < ops.size → listed.getD j true = true) ∧ Q ts) l.length listed ts
  | [], k, listed, ts, hl, hd, hB, h => by
    refine ⟨by simpa [Region.lexFrom] using hB, fun j hj => hd j ?_, h⟩
    have := hl 0
    simp at this
    omega
  | o :: l, k, listed, ts, hl, hd, hB, h => by
    have h0 : ops[k]? = some o := by simpa using (hl 0).symm
    simp only [List.length_cons, Region.lexFrom, Bool.and_eq_true] at hB
    obtain ⟨⟨hr, hf⟩, hB'⟩ := hB
    obtain ⟨v, hy, hK⟩ := h
    refine anyY_first hP h0 l.length listed ts (Region.free_spec h0 hf) (by simpa using hr) hy
      (anyY_lex hP l (k + 1) _ _ (fun j => by have := hl (j + 1); simpa [Nat.add_assoc, Nat.add_comm 1 j] using this) (fun j hj => ?_) hB' hK)
    by_cases hjk : k = j
    · subst hjk
      by_cases hk : k < listed.size
      · simp [hk]
      · simp [Array.getElem?_eq_none (Nat.not_lt.1 hk)]
    · rw [getD_set_ne true hjk]; exact hd j (by omega)

theorem seqY_none {Y : Tells E} : ∀ (l : List Oper) (k : Nat) (ts : List (AV E)), seqY Y (fun _ => (none : Option R) = some r) l k ts → False
  | [], _, ts, h => by cases h
  | o :: l, k, ts, ⟨v, _, h⟩ => seqY_none l (k + 1) _ h
/-! ### numbers -/
/-- How many of the first k change something. -/
def cnt : List (Lg E) → Nat → Nat
  | _, 0 => 0
  | [], _ + 1 => 0
  | e :: l, k + 1 => (if e.ws = [] then 0 else 1) + cnt l k
def lg0 : Lg E := ⟨[], [], 0, .tup []⟩
def rsAt (L : List (Lg E)) (i : Nat) : List Nat := (L.getD i lg0).rs
def wsAt (L : List (Lg E)) (i : Nat) : List Nat := (L.getD i lg0).ws
theorem cnt_succ : ∀ (L : List (Lg E)) (k : Nat), cnt L (k + 1) = cnt L k + (if wsAt L k = [] then 0 else 1)
  | [], 0 => rfl
  | [], k + 1 => rfl
  | e :: l, 0 => by simp [cnt, wsAt]
  | e :: l, k + 1 => by
    have := cnt_succ l k
    simp only [wsAt] at this
    simp only [cnt, wsAt] at *
    rw [show cnt l (k + 1) = _ from this]
    simp [Nat.add_assoc]
theorem cnt_le (L : List (Lg E)) {i j : Nat} (h : i ≤ j) : cnt L i ≤ cnt L j := by
  induction j with
  | zero => have : i = 0 := by omega
            subst this; exact Nat.le_refl _
  | succ j ih =>
    by_cases hij : i = j + 1
    · subst hij; exact Nat.le_refl _
    · exact Nat.le_trans (ih (by omega)) (by rw [cnt_succ]; exact Nat.le_add_right _ _)
theorem cnt_lt (L : List (Lg E)) {i j : Nat} (h : i < j) (hi : wsAt L i ≠ []) : cnt L i < cnt L j := by
  have h1 := cnt_succ L i
  rw [if_neg hi] at h1
  have := cnt_le L (show i + 1 ≤ j from h)
  omega
theorem cnt_find (L : List (Lg E)) : ∀ (k x : Nat), x < cnt L k → ∃ e, e < k ∧ wsAt L e ≠ [] ∧ cnt L e = x
  | 0, x, h => by simp [cnt] at h
  | k + 1, x, h => by
    rw [cnt_succ] at h
    by_cases hw : wsAt L k = []
    · rw [if_pos hw] at h
      obtain ⟨e, h1, h2⟩ := cnt_find L k x h
      exact ⟨e, Nat.lt_succ_of_lt h1, h2⟩
    · rw [if_neg hw] at h
      by_cases hx : x < cnt L k
      · obtain ⟨e, h1, h2⟩ := cnt_find L k x hx
        exact ⟨e, Nat.lt_succ_of_lt h1, h2⟩
      · exact ⟨k, Nat.lt_succ_self k, hw, by omega⟩
/-- What operation i answers: those that change something at their turn; the others whatever has not changed what they read. -/
def YL (C : FuncId → Option (Entry E)) (ops : Array Oper) (L : List (Lg E)) (ms : Nat → Mem E) (n0 : Nat) : Tells E := fun i o v ts =>
  (wsAt L i = [] → lowVB (n0 + wide * cnt L i) v = true) ∧ (L.getD i lg0).v = v ∧ (L.getD i lg0).n = n0 + wide * cnt L i ∧ ∃ m', (wsAt L i ≠ [] → m' = ms (cnt L i + 1)) ∧ YE C ops (ms (cnt L i)) (n0 + wide * cnt L i) o v m' (rsAt L i) (wsAt L i) ts
theorem YL_puts {L : List (Lg E)} {ms : Nat → Mem E} {n0 : Nat} : Puts ops (YL C ops L ms n0) := fun i o v u d ts h =>
  ⟨fun ⟨h1, h4, h5, m', h2, h3⟩ => ⟨h1, h4, h5, m', h2, (YE.put h).1 h3⟩, fun ⟨h1, h4, h5, m', h2, h3⟩ => ⟨h1, h4, h5, m', h2, (YE.put h).2 h3⟩⟩
theorem YE.same {o : Oper} {v : AV E} {rs ws : List Nat} (h : YE C ops m n o v m' rs ws ts) (hw : ws ≠ []) : ∀ k, k ∉ ws → look m' k = look m k := by
  unfold YE at h
  split at h
  · exact h.same
  · obtain ⟨oj, t, h2, h3, h4⟩ := h
    rcases h4 with ⟨b, hb, h5⟩ | ⟨hb, h5⟩
    · rcases h5 with ⟨h6, h7⟩ | ⟨h6, h7, h8, h9, h10⟩
      · exact h7.same
      · exact absurd h10 hw
    · exact absurd h5.2.2.2 hw
/-- What is not written, stays. -/
def Steps (ms : Nat → Mem E) (ls : List (Lg E)) : Prop := ∀ e, wsAt ls e ≠ [] → ∀ k, k ∉ wsAt ls e → look (ms (cnt ls e + 1)) k = look (ms (cnt ls e)) k
theorem Steps.range {ms : Nat → Mem E} {L : List (Lg E)} (h : Steps ms L) {N k p : Nat} : ∀ (d : Nat), p + d ≤ cnt L N → (∀ e, e < N → wsAt L e ≠ [] → p ≤ cnt L e → cnt L e < p + d → k ∉ wsAt L e) → look (ms (p + d)) k = look (ms p) k
  | 0, _, _ => rfl
  | d + 1, hd, hk => by
    obtain ⟨e, he, hw, hc⟩ := cnt_find L N (p + d) (by omega)
    have h1 := h e hw k (hk e he hw (by omega) (by omega))
    rw [hc] at h1
    rw [← Nat.add_assoc, h1]
    exact h.range d (by omega) fun e he hw h1 h2 => hk e he hw h1 (by omega)
theorem seq_of : ∀ (l : List Oper) (n : Nat) (ts : List (AV E)) (m : Mem E) (K : List (AV E) → Mem E → Nat → List (Lg E) → Option R), evOpsE C ops.toList l n ts m K = some r →
    ∃ (ms : Nat → Mem E) (ls : List (Lg E)) (mx : Mem E) (nx : Nat), ms 0 = m ∧ ls.length = l.length ∧ Steps ms ls ∧ (∀ e, e < l.length → (ls.getD e lg0).n = n + wide * cnt ls e) ∧ mx = ms (cnt ls l.length) ∧ nx = n + wide * cnt ls l.length ∧
      ∀ (L : List (Lg E)) (Ms : Nat → Mem E) (n0 k : Nat), (∀ j, j < l.length → L.getD (k + j) lg0 = ls.getD j lg0) → (∀ x, Ms (cnt L k + x) = ms x) → n = n0 + wide * cnt L k → seqY (YL C ops L Ms n0) (fun ts => K ts mx nx ls = some r) l k ts
  | [], n, ts, m, K, h => ⟨fun _ => m, [], m, n, rfl, rfl, fun e h => absurd rfl h, fun e he => absurd he (Nat.not_lt_zero _), rfl, by simp [cnt], fun L Ms n0 k _ _ _ => h⟩
  | o :: l, n, ts, m, K, h => by
    simp only [evOpsE] at h
    obtain ⟨v, m', rs, ws, hy, hq, hk⟩ := YE_of h
    obtain ⟨ms, ls, mx, nx, g1, g2, gS, gN, g3, g4, g5⟩ := seq_of l _ _ m' _ hk
    by_cases hw : ws = []
    · subst hw
      obtain ⟨rfl, hlow⟩ := hq rfl
      rw [if_pos rfl] at g4
      refine ⟨ms, ⟨rs, [], n, v⟩ :: ls, mx, nx, g1, by simp [g2], fun e he k hk => (by
        cases e with
        | zero => exact absurd rfl he
        | succ e =>
          have := gS e he k hk
          simpa [cnt, wsAt] using this), fun e he => (by
        cases e with
        | zero => simp [cnt]
        | succ e =>
          have := gN e (by simpa using he)
          simpa [cnt] using this), by simp [cnt, g3], by simp [cnt, g4], fun L Ms n0 k hL hM hn => ?_⟩
      have hk0 : L.getD k lg0 = ⟨rs, [], n, v⟩ := by simpa using hL 0 (by simp)
      have hws : wsAt L k = [] := by simp only [wsAt, hk0]
      have hrs : rsAt L k = rs := by simp only [rsAt, hk0]
      have hc : cnt L (k + 1) = cnt L k := by rw [cnt_succ, if_pos hws]; rfl
      refine ⟨v, ⟨fun _ => by rw [← hn]; exact hlow, by rw [hk0], by rw [hk0]; exact hn, m', fun h => absurd hws h, ?_⟩, g5 L Ms n0 (k + 1) (fun j hj => ?_) (fun x => ?_) ?_⟩
      · rw [hws, hrs, ← hn]
        have := hM 0
        rw [Nat.add_zero, g1] at this
        rw [this]
        exact hy
      · have := hL (j + 1) (by simpa using hj)
        simpa [Nat.add_assoc, Nat.add_comm 1 j] using this
      · rw [hc]; exact hM x
      · rw [if_pos rfl, hc]; exact hn
    · rw [if_neg hw] at g4
      refine ⟨fun x => match x with
        | 0 => m
        | x + 1 => ms x, ⟨rs, ws, n, v⟩ :: ls, mx, nx, rfl, by simp [g2], fun e he k hk => (by
          cases e with
          | zero =>
            have := hy.same hw k hk
            simpa [cnt, hw, g1] using this
          | succ e =>
            have := gS e he k hk
            simpa [cnt, hw, Nat.add_comm 1] using this), fun e he => (by
          cases e with
          | zero => simp [cnt]
          | succ e =>
            have := gN e (by simpa using he)
            simp only [if_neg hw] at this
            simpa [cnt, hw, Nat.mul_add, Nat.add_assoc] using this), by simp [cnt, hw, g3, Nat.add_comm 1], by simp [cnt, hw, g4, Nat.mul_add, Nat.add_assoc], fun L Ms n0 k hL hM hn => ?_⟩
      have hk0 : L.getD k lg0 = ⟨rs, ws, n, v⟩ := by simpa using hL 0 (by simp)
      have hws : wsAt L k = ws := by simp only [wsAt, hk0]
      have hrs : rsAt L k = rs := by simp only [rsAt, hk0]
      have hc : cnt L (k + 1) = cnt L k + 1 := by rw [cnt_succ, if_neg (by rw [hws]; exact hw)]
      refine ⟨v, ⟨fun h => absurd (hws.symm.trans h) hw, by rw [hk0], by rw [hk0]; exact hn, m', fun _ => ?_, ?_⟩, g5 L Ms n0 (k + 1) (fun j hj => ?_) (fun x => ?_) ?_⟩
      · rw [hM 1]; exact g1.symm
      · rw [hws, hrs, ← hn]
        have := hM 0
        rw [Nat.add_zero] at this
        rw [this]
        exact hy
      · have := hL (j + 1) (by simpa using hj)
        simpa [Nat.add_assoc, Nat.add_comm 1 j] using this
      · rw [hc, Nat.add_assoc, Nat.add_comm 1 x]; exact hM (x + 1)
      · rw [if_neg hw, hc, hn, Nat.mul_add, Nat.mul_one, Nat.add_assoc]
/-! ### what the log's look shows -/
theorem memN_false : ∀ {js : List Nat} {i : Nat}, memN i js = false → i ∉ js
  | [], i, h, hm => by cases hm
  | j :: js, i, h, hm => by
    simp only [memN] at h
    split at h
    · cases h
    · rename_i hne _
      rcases List.mem_cons.1 hm with rfl | hm
      · exact hne rfl
      · exact memN_false h hm
theorem apartN_spec : ∀ {is js : List Nat}, apartN is js = true → ∀ i ∈ is, i ∉ js
  | [], js, h, i, hi => by cases hi
  | k :: is, js, h, i, hi => by
    simp only [apartN] at h
    split at h
    · cases h
    · rename_i hm
      rcases List.mem_cons.1 hi with rfl | hi
      · exact memN_false hm
      · exact apartN_spec h i hi
theorem okPair_spec {x y : Lg E} (h : okPair x y = true) : (x.ws = [] ∧ ∀ i ∈ x.rs, i ∉ y.ws) ∨ (y.ws = [] ∧ (∀ i ∈ x.ws, i ∉ y.rs) ∧ lowVB x.n y.v = true) := by
  unfold okPair at h
  split at h
  · rename_i ws h1; exact .inl ⟨h1, apartN_spec h⟩
  · rw [Bool.and_eq_true] at h
    exact .inr ⟨by assumption, apartN_spec h.1, h.2⟩
  · cases h
theorem mask_bits (A : List Nat) : ∀ (es : List Edge) (i : Nat), Nat.testBit (maskOf A es) i = true → ∃ e ∈ es, Region.binds .any e = true ∧ (e.on = i ∨ ∃ y, geta A e.on = some y ∧ Nat.testBit y i = true)
  | [], i, h => by simp [maskOf] at h
  | e :: es, i, h => by
    simp only [maskOf] at h
    split at h
    · rename_i hb
      simp only [Nat.testBit_or, Bool.or_eq_true] at h
      rcases h with h | h | h
      · refine ⟨e, List.mem_cons_self, hb, .inl ?_⟩
        rw [Nat.testBit_two_pow] at h
        simpa using h
      · refine ⟨e, List.mem_cons_self, hb, .inr ?_⟩
        split at h
        · exact ⟨_, ‹_›, h⟩
        · simp at h
      · obtain ⟨e', h1, h2⟩ := mask_bits A es i h
        exact ⟨e', List.mem_cons_of_mem _ h1, h2⟩
    · obtain ⟨e', h1, h2⟩ := mask_bits A es i h
      exact ⟨e', List.mem_cons_of_mem _ h1, h2⟩
theorem chkMasks_spec (A : List Nat) : ∀ (l : List Oper) (j : Nat), chkMasks A j l = true → ∀ k o, l[k]? = some o → geta A (j + k) = some (maskOf A o.after.toList) ∧ ∀ e ∈ o.after, Region.binds .any e = true → e.on < j + k
  | [], j, h, k, o, ho => by simp at ho
  | o :: l, j, h, k, o', ho => by
    simp only [chkMasks] at h
    split at h
    · rename_i x hx
      simp only [Bool.and_eq_true] at h
      obtain ⟨h1, h2, h3⟩ := h
      cases k with
      | zero =>
        simp at ho
        subst ho
        refine ⟨by rw [Nat.add_zero, hx, Nat.eq_of_beq_eq_true h1], fun e he hb => ?_⟩
        have := List.all_eq_true.1 h2 e (by simpa using he)
        simp only [hb, Bool.not_true, Bool.false_or, Nat.blt_eq] at this
        simpa using this
      | succ k =>
        have := chkMasks_spec A l (j + 1) h3 k o' (by simpa using ho)
        simpa [Nat.add_assoc, Nat.add_comm 1 k] using this
    · cases h
theorem chkRow_spec {A : Nat} {y : Lg E} : ∀ (zs : List (Lg E)) (i : Nat), chkRow A y i zs = true → ∀ k z, zs[k]? = some z → Nat.testBit A (i + k) = true ∨ okPair z y = true
  | [], i, h, k, z, hz => by simp at hz
  | z :: zs, i, h, k, z', hz => by
    simp only [chkRow, Bool.and_eq_true, Bool.or_eq_true] at h
    cases k with
    | zero => simp at hz; subst hz; exact h.1
    | succ k =>
      have := chkRow_spec zs (i + 1) h.2 k z' (by simpa using hz)
      simpa [Nat.add_assoc, Nat.add_comm 1 k] using this
theorem chkLog_spec {A : List Nat} {l : List (Lg E)} : ∀ (ys : List (Lg E)) (j : Nat), chkLog A l j ys = true → ∀ k y, ys[k]? = some y → ∃ x, geta A (j + k) = some x ∧ chkRow x y 0 (l.take (j + k)) = true
  | [], j, h, k, y, hy => by simp at hy
  | y :: ys, j, h, k, y', hy => by
    simp only [chkLog] at h
    split at h
    · rename_i x hx
      simp only [Bool.and_eq_true] at h
      cases k with
      | zero => simp at hy; subst hy; exact ⟨x, by simpa using hx, by simpa using h.1⟩
      | succ k =>
        have := chkLog_spec ys (j + 1) h.2 k y' (by simpa using hy)
        simpa [Nat.add_assoc, Nat.add_comm 1 k] using this
    · cases h
/-- All that an operation waits for, is there. -/
def Waits (listed : Array Bool) (o : Oper) : Prop := ∀ e ∈ o.after, Region.binds .any e = true → listed.getD e.on false = true
def Closed (ops : Array Oper) (listed : Array Bool) : Prop := ∀ j o, ops[j]? = some o → listed.getD j true = true → Waits listed o
theorem anc_listed {A : List Nat} {ops : Array Oper} (hA : chkMasks A 0 ops.toList = true) {listed : Array Bool} (hs : listed.size = ops.size) (hc : Closed ops listed) :
    ∀ (j : Nat) (o : Oper), ops[j]? = some o → Waits listed o → ∀ i x, geta A j = some x → Nat.testBit x i = true → listed.getD i false = true := by
  intro j
  induction j using Nat.strongRecOn with
  | _ j ih =>
    intro o ho hw i x hx hb
    obtain ⟨h1, h2⟩ := chkMasks_spec A ops.toList 0 hA j o (by simpa using ho)
    rw [Nat.zero_add] at h1 h2
    rw [h1] at hx
    cases hx
    obtain ⟨e, he, hbd, hor⟩ := mask_bits A _ i hb
    have he' : e ∈ o.after := by simpa using he
    have hl := hw e he' hbd
    rcases hor with rfl | ⟨y, hy, hyb⟩
    · exact hl
    · have hlt : e.on < listed.size := by
        rcases Nat.lt_or_ge e.on listed.size with h | h
        · exact h
        · simp [Array.getElem?_eq_none h] at hl
      have hop : ops[e.on]? = some (ops[e.on]'(hs ▸ hlt)) := Array.getElem?_eq_getElem _
      refine ih e.on (h2 e he' hbd) _ hop (hc e.on _ hop ?_) i y hy hyb
      simpa [hlt] using hl
/-- Two operations that are not ordered. -/
theorem log_pair {A : List Nat} {ops : Array Oper} {L : List (Lg E)} (hL : chkLog A L 0 L = true) (hlen : L.length = ops.size) {i j : Nat} (hij : i < j) (hj : j < ops.size) :
    ∃ x, geta A j = some x ∧ (Nat.testBit x i = true ∨ (wsAt L i = [] ∧ ∀ k ∈ rsAt L i, k ∉ wsAt L j) ∨ (wsAt L j = [] ∧ (∀ k ∈ wsAt L i, k ∉ rsAt L j) ∧ lowVB (L.getD i lg0).n (L.getD j lg0).v = true)) := by
  have hj' : j < L.length := hlen ▸ hj
  obtain ⟨x, hx, hr⟩ := chkLog_spec L 0 hL j _ (List.getElem?_eq_getElem hj')
  rw [Nat.zero_add] at hx hr
  refine ⟨x, hx, ?_⟩
  have hi' : i < L.length := Nat.lt_trans hij hj'
  have := chkRow_spec _ 0 hr i (L[i]'hi') (by rw [List.getElem?_take_of_lt hij]; exact List.getElem?_eq_getElem hi')
  rw [Nat.zero_add] at this
  refine this.imp_right fun h => ?_
  have h2 := okPair_spec h
  simpa [wsAt, rsAt, List.getD, List.getElem?_eq_getElem hi', List.getElem?_eq_getElem hj'] using h2

/-! ### numbers that stay -/
theorem A1r.lowB {k : Nat} {x : A1 E} {u : Value} (h : A1r E G w m n x u) : lowB n x = true := by
  cases x with
  | row id => simpa [B.lowB] using h.1
  | win id lo k => simpa [B.lowB] using h.1
  | bp id off => simpa [B.lowB] using h.1
  | rp id i off => simpa [B.lowB] using h.1
  | ap id lo k x => simpa [B.lowB] using h.1
  | _ => rfl
theorem A1r.to_low {k : Nat} {x : A1 E} {u : Value} (h : A1r E G w m n x u) (hl : B.lowB k x = true) : A1r E G w m k x u := by
  cases x with
  | row id => exact ⟨by simpa [B.lowB] using hl, h.2⟩
  | win id lo k => exact ⟨by simpa [B.lowB] using hl, h.2⟩
  | bp id off => exact ⟨by simpa [B.lowB] using hl, h.2⟩
  | rp id i off => exact ⟨by simpa [B.lowB] using hl, h.2⟩
  | ap id lo k x => exact ⟨by simpa [B.lowB] using hl, h.2⟩
  | s v => exact h
  | imm e xs => exact h
  | ip e x off => exact h
  | junk => trivial
theorem lowLB_spec {k : Nat} : ∀ {cs : List (A1 E)}, lowLB k cs = true ↔ ∀ x ∈ cs, B.lowB k x = true
  | [] => by simp [lowLB]
  | x :: cs => by
    simp only [lowLB]
    cases hx : B.lowB k x with
    | true => simp [hx, lowLB_spec (cs := cs)]
    | false => simp [hx]
theorem A1l.to_low {k : Nat} {cs : List (A1 E)} {arr : Array Value} (h : A1l E G w m n cs arr) (hl : ∀ x ∈ cs, B.lowB k x = true) : A1l E G w m k cs arr :=
  ⟨h.1, fun j x hj => ⟨(h.2 j x hj).1.to_low (hl x (List.mem_of_getElem? hj)), (h.2 j x hj).2⟩⟩
theorem A1l.lowL {k : Nat} {cs : List (A1 E)} {arr : Array Value} (h : A1l E G w m n cs arr) : ∀ x ∈ cs, B.lowB n x = true := fun x hx => by
  obtain ⟨j, hj⟩ := List.mem_iff_getElem?.1 hx
  exact (h.2 j x hj).1.lowB (k := 0)
theorem A2r.to_low {k : Nat} {x : A2 E} {u : Value} (h : A2r E G w m n x u) (hl : lowA2B k x = true) : A2r E G w m k x u := by
  cases x with
  | c x => exact A1r.to_low (x := x) h hl
  | g cs => obtain ⟨arr, h1, h2⟩ := h; exact ⟨arr, h1, h2.to_low (lowLB_spec.1 hl)⟩
theorem A2r.lowB {x : A2 E} {u : Value} (h : A2r E G w m n x u) : lowA2B n x = true := by
  cases x with
  | c x => exact A1r.lowB (k := 0) (x := x) h
  | g cs => obtain ⟨arr, h1, h2⟩ := h; exact lowLB_spec.2 (h2.lowL (k := 0))
theorem lowL2B_spec {k : Nat} : ∀ {cs : List (A2 E)}, lowL2B k cs = true ↔ ∀ x ∈ cs, lowA2B k x = true
  | [] => by simp [lowL2B]
  | x :: cs => by
    simp only [lowL2B]
    cases hx : lowA2B k x with
    | true => simp [hx, lowL2B_spec (cs := cs)]
    | false => simp [hx]
theorem AVr.to_low {k : Nat} {x : AV E} {u : Value} (h : AVr E G w m n x u) (hl : lowVB k x = true) : AVr E G w m k x u := by
  cases x with
  | v x => exact A2r.to_low (x := x) h hl
  | tup vs =>
    obtain ⟨arr, h1, h2, h3⟩ := h
    exact ⟨arr, h1, h2, fun j y hj => (h3 j y hj).to_low (lowL2B_spec.1 hl y (List.mem_of_getElem? hj))⟩
theorem AVr.lowB {x : AV E} {u : Value} (h : AVr E G w m n x u) : lowVB n x = true := by
  cases x with
  | v x => exact A2r.lowB (x := x) h
  | tup vs =>
    obtain ⟨arr, h1, h2, h3⟩ := h
    refine lowL2B_spec.2 fun y hy => ?_
    obtain ⟨j, hj⟩ := List.mem_iff_getElem?.1 hy
    exact (h3 j y hj).lowB
theorem Mr.to_low {G' : Gh} {n' : Nat} (h : Mr E w0 Φ I0 G m n w) (h' : Mr E w0 Φ I0 G' m n' w') : Mr E w0 Φ I0 G' m n w' :=
  { h' with
    lt := h.lt
    nn := h.nn
    bl := fun id b hb => by
      have h1 := h'.bl id b hb
      cases b with
      | row d e xs => exact h1
      | box cs =>
        obtain ⟨⟨arr, ty, h2, h3⟩, h4⟩ := h1
        obtain ⟨⟨arr0, ty0, _, h5⟩, _⟩ := h.bl id _ hb
        exact ⟨⟨arr, ty, h2, h3.to_low (h5.lowL (k := 0))⟩, h4⟩ }
theorem Tr.to_low {G' : Gh} {n' : Nat} {a' : Act} (h : Tr E G ts m n a w) (h' : Tr E G' ts m n' a' w') : Tr E G' ts m n a' w' :=
  ⟨h'.df, h'.sz, fun t x ht => (h'.tm t x ht).to_low (h.tm t x ht).lowB⟩
theorem lowB_le {k l : Nat} (h : k ≤ l) {x : A1 E} (hx : B.lowB k x = true) : B.lowB l x = true := by
  cases x <;> simp only [B.lowB, Nat.blt_eq] at * <;> omega
theorem lowA2B_le {k l : Nat} (h : k ≤ l) {x : A2 E} (hx : lowA2B k x = true) : lowA2B l x = true := by
  cases x with
  | c x => exact lowB_le h (x := x) hx
  | g cs => exact lowLB_spec.2 fun y hy => lowB_le h (lowLB_spec.1 hx y hy)
theorem lowVB_le {k l : Nat} (h : k ≤ l) {x : AV E} (hx : lowVB k x = true) : lowVB l x = true := by
  cases x with
  | v x => exact lowA2B_le h (x := x) hx
  | tup vs => exact lowL2B_spec.2 fun y hy => lowA2B_le h (lowL2B_spec.1 hx y hy)
/-! ### whatever order is drawn: what is true of the world -/
theorem anyY_sound (hE : EnvOK E P) (hC : CSound E P C) {L : List (Lg E)} {ms : Nat → Mem E} {n0 : Nat} {A : List Nat} (hA : chkMasks A 0 ops.toList = true) (hL : chkLog A L 0 L = true) (hlen : L.length = ops.size) (hS : Steps ms L) (hLe : ∀ e, e < ops.size → wsAt L e ≠ [] → (L.getD e lg0).n = n0 + wide * cnt L e) {K : List (AV E) → Prop}
    (hK : ∀ ts G a w, K ts → Mr E w0 Φ I0 G (ms (cnt L ops.size)) (n0 + wide * cnt L ops.size) w → Tr E G ts (ms (cnt L ops.size)) (n0 + wide * cnt L ops.size) a w → Q .normal a w) :
    ∀ (fuel : Nat) (listed : Array Bool) (ts : List (AV E)) (c : Nat) (G : Gh) (a : Act) (w : World), anyY ops (YL C ops L ms n0) (fun listed ts => (∀ j, j < ops.size → listed.getD j true = true) ∧ K ts) fuel listed ts →
      listed.size = ops.size → Closed ops listed → (∀ i, i < ops.size → wsAt L i ≠ [] → (listed.getD i true = true ↔ cnt L i < c)) → c ≤ cnt L ops.size →
      Mr E w0 Φ I0 G (ms c) (n0 + wide * c) w → Tr E G ts (ms c) (n0 + wide * c) a w → wpAny P .any ops Q fuel listed a w := by
  have last : ∀ (listed : Array Bool) (c : Nat), (∀ j, j < ops.size → listed.getD j true = true) → (∀ i, i < ops.size → wsAt L i ≠ [] → (listed.getD i true = true ↔ cnt L i < c)) → c ≤ cnt L ops.size → c = cnt L ops.size := fun listed c h1 h2 h3 => by
    rcases Nat.lt_or_ge c (cnt L ops.size) with h | h
    · obtain ⟨e, he, hw, hc⟩ := cnt_find L _ c h
      have := (h2 e he hw).1 (h1 e he)
      omega
    · omega
  intro fuel
  induction fuel with
  | zero =>
    intro listed ts c G a w h hs hcl hin hct hM hT
    have := last listed c h.2.1 hin hct
    subst this
    exact ⟨h.1, hK ts G a w h.2.2 hM hT⟩
  | succ fuel ih =>
    intro listed ts c G a w h hs hcl hin hct hM hT
    refine ⟨fun h0 => ?_, fun i hi => ?_⟩
    · have h1 := h.1 h0
      have := last listed c h1.1 hin hct
      subst this
      exact hK ts G a w h1.2 hM hT
    have hst := h.2 i hi
    obtain ⟨hun, o, ho, hwait⟩ := mem_ready.1 hi
    have hwait : Waits listed o := hwait
    have hil : i < ops.size := (Array.getElem?_eq_some_iff.1 ho).1
    have hne : ¬ listed.getD i true = true := by rw [hun]; simp
    unfold stY at hst
    unfold wpOp
    simp only [ho] at hst ⊢
    obtain ⟨v, ⟨hlow, hLv, hLn, m', hm', hy⟩, hk⟩ := hst
    -- what is listed
    have hs' : (listed.setIfInBounds i true).size = ops.size := by simp [hs]
    have hcl' : Closed ops (listed.setIfInBounds i true) := fun j oj hoj hj e he hb => by
      by_cases hji : i = j
      · subst hji; rw [ho] at hoj; cases hoj; exact getD_set_true (hwait e he hb)
      · rw [getD_set_ne true hji] at hj; exact getD_set_true (hcl j oj hoj hj e he hb)
    have tf : ∀ e, e < ops.size → (listed.getD e false = true ↔ listed.getD e true = true) := fun e he => by
      have : e < listed.size := hs ▸ he
      simp [this]
    have skip : ∀ (ws' : wsAt L i = []) , v = .tup [] → wpAny P .any ops Q fuel (listed.setIfInBounds i true) (a.put o.dst undef) w := fun hws e => by
      subst e
      refine ih _ _ c G _ w hk hs' hcl' (fun j hj hjw => ?_) hct hM (hT.put o.dst undef_rel)
      have : i ≠ j := fun e => hjw (e ▸ hws)
      rw [getD_set_ne true this]
      exact hin j hj hjw
    have run : RunE C (ms (cnt L i)) (n0 + wide * cnt L i) o.op v m' (rsAt L i) (wsAt L i) ts → o.wp P a w (wpAny P .any ops Q fuel (listed.setIfInBounds i true)) Q := fun hr => by
      classical
      by_cases hws : wsAt L i = []
      · obtain ⟨hp, _, hlv, hq⟩ := hr.quiet hws
        -- an operation that is not there yet, and is not waited for
        have early : ∀ e, e < i → wsAt L e ≠ [] → c ≤ cnt L e → (∀ k ∈ wsAt L e, k ∉ rsAt L i) ∧ lowVB (L.getD e lg0).n (L.getD i lg0).v = true := fun e he hew hce => by
          obtain ⟨x, hx, hor⟩ := log_pair hL hlen he hil
          rcases hor with hb | ⟨h3, _⟩ | ⟨_, h3⟩
          · have := anc_listed hA hs hcl i o ho hwait e x hx hb
            rw [tf e (Nat.lt_trans he hil), hin e (Nat.lt_trans he hil) hew] at this
            omega
          · exact absurd h3 hew
          · exact h3
        -- one that is there, though it stands behind
        have late : ∀ e, e < ops.size → i < e → wsAt L e ≠ [] → cnt L e < c → ∀ k ∈ rsAt L i, k ∉ wsAt L e := fun e hel he hew hce => by
          obtain ⟨x, hx, hor⟩ := log_pair hL hlen he hel
          rcases hor with hb | ⟨_, h3⟩ | ⟨h3, _⟩
          · exfalso
            have hl := (hin e hel hew).2 hce
            have hoe : ops[e]? = some (ops[e]'hel) := Array.getElem?_eq_getElem _
            have := anc_listed hA hs hcl e _ hoe (hcl e _ hoe hl) i x hx hb
            exact hne ((tf i hil).1 this)
          · exact h3
          · exact absurd h3 hew
        have hag : ∀ k ∈ rsAt L i, look (ms c) k = look (ms (cnt L i)) k := fun k hk => by
          rcases Nat.le_total c (cnt L i) with hle | hle
          · obtain ⟨d, hd⟩ := Nat.exists_eq_add_of_le hle
            rw [hd]
            refine (hS.range (N := i) d (by omega) fun e he hew h1 h2 h3 => ?_).symm
            exact (early e he hew h1).1 k h3 hk
          · obtain ⟨d, hd⟩ := Nat.exists_eq_add_of_le hle
            rw [hd]
            refine hS.range (N := ops.size) d (by omega) fun e he hew h1 h2 h3 => ?_
            have hie : i < e := by
              rcases Nat.lt_trichotomy i e with h | h | h
              · exact h
              · subst h; exact absurd hws hew
              · have := cnt_lt L h hew; omega
            exact late e he hie hew (by omega) k hk h3
        have hlo : lowVB (n0 + wide * c) v = true := by
          rcases Nat.lt_or_ge c (cnt L i) with hlt | hge
          · obtain ⟨e, he, hew, hec⟩ := cnt_find L _ c hlt
            have h1 := (early e he hew (by omega)).2
            rw [hLv] at h1
            have h2 := hLe e (Nat.lt_trans he hil) hew
            rw [hec] at h2
            rw [h2] at h1
            exact h1
          · exact lowVB_le (Nat.add_le_add_left (Nat.mul_le_mul_left _ hge) _) (hlow hws)
        have h1 : (evOp C (n0 + wide * c) ts o.op).run (ms c) (fun v' m'' => if v' = v ∧ m'' = ms c then some () else none) = some () :=
          run_of_runD _ _ (fun v' => if v' = v then some () else none) _ () (fun v' hv' => by
            split at hv'
            · rename_i e; simp [e]
            · cases hv') (hq _ hag _ _ () (by simp))
        refine evOp_sound hE hC hM hT h1 fun v' m'' G' u w' hk' h2 h3 h4 => ?_
        split at hk'
        · rename_i e
          obtain ⟨rfl, rfl⟩ := e
          refine ih _ _ c G' _ w' hk hs' hcl' (fun j hj hjw => ?_) hct (hM.to_low h2) ((hT.to_low h3).put o.dst (h4.to_low hlo))
          have : i ≠ j := fun e => hjw (e ▸ hws)
          rw [getD_set_ne true this]
          exact hin j hj hjw
        · cases hk'
      · have hceq : c = cnt L i := by
          have h1 : ¬ cnt L i < c := fun h => hne ((hin i hil hws).2 h)
          rcases Nat.lt_or_ge c (cnt L i) with h2 | h2
          · exfalso
            obtain ⟨e, he, hew, hec⟩ := cnt_find L _ c h2
            obtain ⟨x, hx, hor⟩ := log_pair hL hlen he hil
            rcases hor with hb | ⟨h3, _⟩ | ⟨h3, _⟩
            · have := anc_listed hA hs hcl i o ho hwait e x hx hb
              rw [tf e (Nat.lt_trans he hil), hin e (Nat.lt_trans he hil) hew] at this
              omega
            · exact hew h3
            · exact hws h3
          · omega
        rw [hceq] at hM hT
        have hm2 := hm' hws
        have hc1 : cnt L i + 1 = cnt L (i + 1) := by rw [cnt_succ, if_neg hws]
        have h1 : (evOp C (n0 + wide * cnt L i) ts o.op).run (ms (cnt L i)) (fun v' m'' => if v' = v ∧ m'' = m' then some () else none) = some () := hr.run _ () (by simp)
        refine evOp_sound hE hC hM hT h1 fun v' m'' G' u w' hk' h2 h3 h4 => ?_
        split at hk'
        · rename_i e
          obtain ⟨rfl, rfl⟩ := e
          rw [hm2] at h2 h3 h4
          have he : n0 + wide * cnt L i + wide = n0 + wide * (cnt L i + 1) := by rw [Nat.mul_add, Nat.mul_one, Nat.add_assoc]
          rw [he] at h2 h3 h4
          refine ih _ _ (cnt L i + 1) G' _ w' hk hs' hcl' (fun j hj hjw => ?_) (by rw [hc1]; exact cnt_le L hil) h2 (h3.put o.dst h4)
          by_cases hji : i = j
          · subst hji
            have : i < listed.size := hs ▸ hil
            simp [this]
          · rw [getD_set_ne true hji, hin j hj hjw, hceq]
            constructor
            · intro h; omega
            · intro h
              rcases Nat.lt_trichotomy i j with h5 | h5 | h5
              · have := cnt_lt L h5 hws; omega
              · exact absurd h5 hji
              · have := cnt_lt L h5 hjw; omega
        · cases hk'
    unfold YE at hy
    split at hy
    · rename_i hg
      have hw : Region.wanted o (yielded ops a.tmps) = true := by simp [Region.wanted, hg]
      rw [if_pos hw]
      exact .inl (run hy)
    · rename_i j want hg
      obtain ⟨oj, t, hoj, ht, h4⟩ := hy
      rcases h4 with ⟨b, hb, h5⟩ | ⟨hb, h5⟩
      · obtain ⟨g1, g2⟩ := hT.get hb
        have hbv : a.tmps.getD t undef = .bool b := g2.1
        have hyb : yielded ops a.tmps j = some b := by simp [yielded, hoj, ht, g1, hbv]
        rcases h5 with ⟨h6, h7⟩ | ⟨h6, h7, h8, h9, h10⟩
        · subst h6
          have hw : Region.wanted o (yielded ops a.tmps) = true := by simp [Region.wanted, hg, hyb]
          rw [if_pos hw]
          exact .inl (run h7)
        · have hw : ¬ Region.wanted o (yielded ops a.tmps) = true := by simp [Region.wanted, hg, hyb, h6]
          rw [if_neg hw]
          exact skip h10 h7
      · obtain ⟨g1, arr, g2, g3, _⟩ := hT.get hb
        have hyb : yielded ops a.tmps j = none := by simp [yielded, hoj, ht, g1, g2]
        have hw : ¬ Region.wanted o (yielded ops a.tmps) = true := by simp [Region.wanted, hg, hyb]
        rw [if_neg hw]
        exact skip h5.2.2.2 h5.1
/-- A region whose order is drawn. -/
theorem region_drawE (hE : EnvOK E P) {C : FuncId → Option (Entry E)} (hC : CSound E P C) {id : Nat} {ops : Array Oper} (hB : Region.lexB .any ops = true) {K : List (AV E) → Mem E → Nat → Option R}
    (h : (evOpsE C ops.toList ops.toList n ts m fun ts m n l => match okLog ops.toList l with
      | true => K ts m n
      | false => none) = some r)
    (hM : Mr E w0 Φ I0 G m n w) (hT : Tr E G ts m n a w) (hK : ∀ ts m n G a w, K ts m n = some r → Mr E w0 Φ I0 G m n w → Tr E G ts m n a w → Q .normal a w) : (Code.region id ops true).wp P Q a w := by
  simp only [Region.lexB, Bool.and_eq_true] at hB
  refine wp_region_any hE.mixed ?_
  have hf : Frame (fun _ => False) w { w with drawn := w.drawn + 1 } := ⟨rfl, rfl, rfl, Nat.le_refl _, fun _ _ _ => rfl⟩
  obtain ⟨ms, ls, mx, nx, g1, g2, gS, gN, g3, g4, g5⟩ := seq_of _ _ _ _ _ h
  rw [Array.length_toList] at g2 g3 g4 gN
  have hq := g5 ls ms n 0 (fun j _ => by rw [Nat.zero_add]) (fun x => by simp [cnt]) (by simp [cnt])
  by_cases hok : okLog ops.toList ls = true
  · rw [hok] at hq
    simp only at hq
    have hok' := hok
    simp only [okLog, Bool.and_eq_true] at hok'
    have h1 := anyY_lex (YL_puts (C := C) (L := ls) (ms := ms) (n0 := n)) ops.toList 0 (Array.replicate ops.size false) ts (by simp) (fun j hj => absurd hj (Nat.not_lt_zero _)) (by simpa using hB.2) hq
    rw [Array.length_toList] at h1
    refine anyY_sound hE hC hok'.1 hok'.2 g2 gS (fun e he _ => gN e he) (K := fun ts => K ts mx nx = some r) (fun ts G a w hk h2 h3 => hK ts mx nx G a w hk (by rw [g3, g4]; exact h2) (by rw [g3, g4]; exact h3)) ops.size _ ts 0 G a _ h1 (by simp) ?_ ?_ (Nat.zero_le _) ?_ ?_
    · intro j o ho hj
      have : j < ops.size := (Array.getElem?_eq_some_iff.1 ho).1
      simp [this] at hj
    · intro i hi _
      simp [hi]
    · rw [g1]; simpa using hM.grow hf fun k hk => hk.elim
    · have h0 : Tr E G ts (ms 0) (n + wide * 0) a { w with drawn := w.drawn + 1 } := by
        rw [g1, Nat.mul_zero, Nat.add_zero]
        exact hT.keep (Mle.refl _ _ _) (Nat.le_refl _) fun k hk => ⟨hk, rfl⟩
      exact h0
  · exfalso
    have hok : okLog ops.toList ls = false := by simpa using hok
    rw [hok] at hq
    simp only at hq
    exact seqY_none ops.toList 0 ts hq
end
end Go.B
