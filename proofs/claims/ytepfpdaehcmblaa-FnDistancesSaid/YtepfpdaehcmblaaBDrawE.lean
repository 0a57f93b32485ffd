/- Regions whose order is drawn: what may come in another order, touches nothing that the other touches. -/
import Derived.Test.YtepfpdaehcmblaaBDraw
import Derived.Test.YtepfpdaehcmblaaBMerge
namespace Go.B
open Go Go.RowKit
set_option linter.unusedVariables false
set_option linter.unusedSimpArgs false
variable {E : Env} {P : Program}
section
variable {R : Type} {G : Gh} {w w0 w1 w' : World} {m m' m1 m2 : Mem E} {n : Nat} {r : R} {Φ Ψ : Nat → Prop} {I0 : Ent} {ts : List (AV E)} {a : Act} {Q : Exit → Act → World → Prop}
structure Facts (p : Mp E) (m : Mem E) (v : AV E) (m' : Mem E) (rs ws : List Nat) (ws0 : List Nat) : Prop where
 run : ∀ {R' : Type} (K' : AV E → Mem E → Option R') (r' : R'), K' v m' = some r' → p.run m K' = some r'
 same : ∀ i, i ∉ ws → look m' i = look m i
 sub : ∀ i ∈ ws0, i ∈ ws
 quiet : ws = [] → m' = m ∧ ∀ (mx : Mem E), (∀ i ∈ rs, look mx i = look m i) → ∀ {R' : Type} (K' : AV E → Option R') (r' : R'), K' v = some r' → p.runD mx K' = some r'
 move : ∀ (mx : Mem E), (∀ i ∈ rs, look mx i = look m i) → (∀ i ∈ ws0, look mx i = look m i) → ∃ mx', (∀ i, look mx' i = if i ∈ ws then look m' i else look mx i) ∧ ∀ {R' : Type} (K' : AV E → Mem E → Option R') (r' : R'), K' v mx' = some r' → p.run mx K' = some r'
theorem runE_facts : ∀ (p : Mp E) (m : Mem E) (rs ws : List Nat) {R : Type} (K : AV E → Mem E → List Nat → List Nat → Option R) (r : R), p.runE m rs ws K = some r →
  ∃ v m' rs' ws', K v m' rs' ws' = some r ∧ (∀ i ∈ rs, i ∈ rs') ∧ Facts p m v m' rs' ws' ws
 | .ret v, m, rs, ws, R, K, r, h => ⟨v, m, rs, ws, h, fun _ h => h, fun K' r' h => h, fun _ _ => rfl, fun _ h => h, fun _ => ⟨rfl, fun mx _ _ K' r' h => h⟩, fun mx h1 h2 => ⟨mx, fun i => by
   by_cases hi : i ∈ ws
   ·rw [if_pos hi, h2 i hi]
   ·rw [if_neg hi], fun K' r' h => h⟩⟩
 | .fail, m, rs, ws, R, K, r, h => by simp [Mp.runE] at h
 | .mem k, m, rs, ws, R, K, r, h => by simp [Mp.runE] at h
 | .guard c d k, m, rs, ws, R, K, r, h => by
  simp only [Mp.runE] at h
  by_cases hc : c
  ·rw [if_pos hc] at h
   obtain ⟨v, m', rs', ws', h1, h3, F⟩ := runE_facts k m rs ws K r h
   refine ⟨v, m', rs', ws', h1, h3, fun K' r' h => by simp only [Mp.run]; rw [if_pos hc]; exact F.run K' r' h, F.same, F.sub, fun hw => ⟨(F.quiet hw).1, fun mx hm _ K' r' h => by simp only [Mp.runD]; rw [if_pos hc]; exact (F.quiet hw).2 mx hm K' r' h⟩, fun mx g1 g2 => ?_⟩
   obtain ⟨mx', g3, g4⟩ := F.move mx g1 g2
   exact ⟨mx', g3, fun K' r' h => by simp only [Mp.run]; rw [if_pos hc]; exact g4 K' r' h⟩
  ·rw [if_neg hc] at h; cases h
 | .cond b k k', m, rs, ws, R, K, r, h => by
  cases b with
  | true =>
   obtain ⟨v, m', rs', ws', h1, h3, F⟩ := runE_facts k m rs ws K r (by simpa [Mp.runE] using h)
   refine ⟨v, m', rs', ws', h1, h3, fun K' r' h => by simpa [Mp.run] using F.run K' r' h, F.same, F.sub, fun hw => ⟨(F.quiet hw).1, fun mx hm _ K' r' h => by simpa [Mp.runD] using (F.quiet hw).2 mx hm K' r' h⟩, fun mx g1 g2 => ?_⟩
   obtain ⟨mx', g3, g4⟩ := F.move mx g1 g2
   exact ⟨mx', g3, fun K' r' h => by simpa [Mp.run] using g4 K' r' h⟩
  | false =>
   obtain ⟨v, m', rs', ws', h1, h3, F⟩ := runE_facts k' m rs ws K r (by simpa [Mp.runE] using h)
   refine ⟨v, m', rs', ws', h1, h3, fun K' r' h => by simpa [Mp.run] using F.run K' r' h, F.same, F.sub, fun hw => ⟨(F.quiet hw).1, fun mx hm _ K' r' h => by simpa [Mp.runD] using (F.quiet hw).2 mx hm K' r' h⟩, fun mx g1 g2 => ?_⟩
   obtain ⟨mx', g3, g4⟩ := F.move mx g1 g2
   exact ⟨mx', g3, fun K' r' h => by simpa [Mp.run] using g4 K' r' h⟩
 | .get id k, m, rs, ws, R, K, r, h => by
  simp only [Mp.runE] at h
  cases hl : look m id with
  | none => rw [hl] at h; cases h
  | some b =>
   rw [hl] at h
   obtain ⟨v, m', rs', ws', h1, h3, F⟩ := runE_facts (k b) m (id :: rs) ws K r h
   have hid := h3 id List.mem_cons_self
   refine ⟨v, m', rs', ws', h1, fun i hi => h3 i (List.mem_cons_of_mem _ hi), fun K' r' h => by simp only [Mp.run, hl]; exact F.run K' r' h, F.same, F.sub, fun hw => ⟨(F.quiet hw).1, fun mx hm _ K' r' h => by
    simp only [Mp.runD, hm id hid, hl]
    exact (F.quiet hw).2 mx hm K' r' h⟩, fun mx g1 g2 => ?_⟩
   obtain ⟨mx', g3, g4⟩ := F.move mx g1 g2
   exact ⟨mx', g3, fun K' r' h => by simp only [Mp.run, g1 id hid, hl]; exact g4 K' r' h⟩
 | .put id b k, m, rs, ws, R, K, r, h => by
  simp only [Mp.runE, forceB_eq, setmK_eq] at h
  obtain ⟨v, m', rs', ws', h1, h3, F⟩ := runE_facts k (setm m id b) rs (id :: ws) K r h
  have hid := F.sub id List.mem_cons_self
  refine ⟨v, m', rs', ws', h1, h3, fun K' r' h => by simp only [Mp.run, forceB_eq, setmK_eq]; exact F.run K' r' h, fun i hi => ?_, fun i hi => F.sub i (List.mem_cons_of_mem _ hi), fun hw => ?_, fun mx g1 g2 => ?_⟩
  ·rw [F.same i hi, look_set, if_neg (fun (e : id = i) => hi (e ▸ hid))]
  ·rw [hw] at hid; cases hid
  ·have ag : ∀ i, look mx i = look m i → look (setm mx id b) i = look (setm m id b) i := fun i hi => by rw [look_set, look_set, hi]
   obtain ⟨mx', g3, g4⟩ := F.move (setm mx id b) (fun i hi => ag i (g1 i hi)) (fun i hi => by
    rcases List.mem_cons.1 hi with rfl | hi
    ·rw [look_set, look_set, if_pos rfl, if_pos rfl]
    ·exact ag i (g2 i hi))
   refine ⟨mx', fun i => ?_, fun K' r' h => by simp only [Mp.run, forceB_eq, setmK_eq]; exact g4 K' r' h⟩
   rw [g3]
   by_cases hi : i ∈ ws'
   ·rw [if_pos hi, if_pos hi]
   ·rw [if_neg hi, if_neg hi, look_set, if_neg (fun (e : id = i) => hi (e ▸ hid))]
 | .del id k, m, rs, ws, R, K, r, h => by
  simp only [Mp.runE, delmK_eq] at h
  obtain ⟨v, m', rs', ws', h1, h3, F⟩ := runE_facts k (delm m id) rs (id :: ws) K r h
  have hid := F.sub id List.mem_cons_self
  refine ⟨v, m', rs', ws', h1, h3, fun K' r' h => by simp only [Mp.run, delmK_eq]; exact F.run K' r' h, fun i hi => ?_, fun i hi => F.sub i (List.mem_cons_of_mem _ hi), fun hw => ?_, fun mx g1 g2 => ?_⟩
  ·rw [F.same i hi, look_del, if_neg (fun (e : id = i) => hi (e ▸ hid))]
  ·rw [hw] at hid; cases hid
  ·have ag : ∀ i, look mx i = look m i → look (delm mx id) i = look (delm m id) i := fun i hi => by rw [look_del, look_del, hi]
   obtain ⟨mx', g3, g4⟩ := F.move (delm mx id) (fun i hi => ag i (g1 i hi)) (fun i hi => by
    rcases List.mem_cons.1 hi with rfl | hi
    ·rw [look_del, look_del, if_pos rfl, if_pos rfl]
    ·exact ag i (g2 i hi))
   refine ⟨mx', fun i => ?_, fun K' r' h => by simp only [Mp.run, delmK_eq]; exact g4 K' r' h⟩
   rw [g3]
   by_cases hi : i ∈ ws'
   ·rw [if_pos hi, if_pos hi]
   ·rw [if_neg hi, if_neg hi, look_del, if_neg (fun (e : id = i) => hi (e ▸ hid))]
 | .call x k, m, rs, ws, R, K, r, h => by
  simp only [Mp.runE] at h
  obtain ⟨y, h1, h2⟩ := Option.bind_eq_some_iff.1 h
  obtain ⟨res, hw⟩ := x.nat y h1
  rw [hw] at h2
  obtain ⟨v, m', rs', ws', g1, g3, F⟩ := runE_facts (k res) m rs ws K r h2
  refine ⟨v, m', rs', ws', g1, g3, fun K' r' h => by simp only [Mp.run, h1, Option.bind_some]; rw [hw]; exact F.run K' r' h, F.same, F.sub, fun hw' => ⟨(F.quiet hw').1, fun mx hm _ K' r' h => by
   simp only [Mp.runD, h1, Option.bind_some]
   rw [hw]
   exact (F.quiet hw').2 mx hm K' r' h⟩, fun mx g1 g2 => ?_⟩
  obtain ⟨mx', g3, g4⟩ := F.move mx g1 g2
  exact ⟨mx', g3, fun K' r' h => by simp only [Mp.run, h1, Option.bind_some]; rw [hw]; exact g4 K' r' h⟩
theorem evOp_congr' {C : FuncId → Option (Entry E)} {n : Nat} {ts ts' : List (AV E)} {o : Op} (h : ∀ x ∈ o.operands, Aeval ts x = Aeval ts' x) : evOp C n ts o = evOp C n ts' o := by
 by_cases hp : pureOp o = true
 ·exact evOp_congr hp h
 cases o with
 | call c =>
  simp only [evOp]
  split
  ·rename_i b hb
   exact evB_congr _ _ _ fun x hx => h x (by simp only [Op.operands, Call.operands, Array.mem_append]; exact .inr (by simpa using hx))
  ·rename_i f hf
   split
   ·rename_i en _
    rw [Aeval_congr_list c.args.toList fun x hx => h x (by simp only [Op.operands, Call.operands, Array.mem_append]; exact .inr (by simpa using hx))]
   ·rfl
  ·rename_i y hnf hy
   rw [Aeval_congr_list c.args.toList fun x hx => h x (by simp only [Op.operands, Call.operands, Array.mem_append]; exact .inr (by simpa using hx)), h y (by simp only [Op.operands, Call.operands, Array.mem_append, hy]; exact .inl (by simp))]
  ·rfl
 | makeFunc fn first caps =>
  cases fn with
  | func g =>
   simp only [evOp]
   rw [Aeval_congr_list caps.toList fun x hx => h x (by simp only [Op.operands, Array.mem_append]; exact .inr (by simpa using hx))]
  | _ => rfl
 | slice t x lo hi mx =>
  cases mx with
  | some q => rfl
  | none => exact absurd rfl hp
 | alloc _ => rfl
 | box t x => simp only [evOp]; rw [h x (by simp [Op.operands])]
 | buildSlice t m parts =>
  simp only [evOp]
  rw [a2s_congr parts.toList fun q hq => h q.2 (by simp [Op.operands]; exact ⟨q.1, by simpa using hq⟩)]
 | makeSlice t x y => simp only [evOp]; rw [h x (by simp [Op.operands]), h y (by simp [Op.operands])]
 | store t x y => simp only [evOp]; rw [h x (by simp [Op.operands]), h y (by simp [Op.operands])]
 | _ => first | rfl | exact absurd rfl hp
structure RunE (C : FuncId → Option (Entry E)) (m : Mem E) (n : Nat) (o : Op) (v : AV E) (m' : Mem E) (rs ws : List Nat) (ts : List (AV E)) : Prop where
 same : ∀ i, i ∉ ws → look m' i = look m i
 quiet : ws = [] → pureOp o = true ∧ m' = m ∧ ∀ (mx : Mem E), (∀ i ∈ rs, look mx i = look m i) → ∀ (n1 : Nat) {R : Type} (K : AV E → Option R) (r : R), K v = some r → (evOp C n1 ts o).runD mx K = some r
 move : ws ≠ [] → lowOps ts n o.operands.toList = true ∧ lowRd n m rs = true ∧ ∀ (mx : Mem E), (∀ i ∈ rs, look mx i = look m i) → ∃ mx', (∀ i, look mx' i = if i ∈ ws then look m' i else look mx i) ∧ ∀ {R : Type} (K : AV E → Mem E → Option R) (r : R), K v mx' = some r → (evOp C n ts o).run mx K = some r
def YE (C : FuncId → Option (Entry E)) (ops : Array Oper) (m : Mem E) (n : Nat) (o : Oper) (v : AV E) (m' : Mem E) (rs ws : List Nat) (ts : List (AV E)) : Prop := match o.guard with
 | none => RunE C m n o.op v m' rs ws ts
 | some (j, want) => ∃ oj t, ops[j]? = some oj ∧ oj.dst = some t ∧ ((∃ b : Bool, geta ts t = some (.v (.c (.s (.bool b)))) ∧ ((b = want ∧ RunE C m n o.op v m' rs ws ts) ∨ (b ≠ want ∧ v = .tup [] ∧ m' = m ∧ rs = [] ∧ ws = []))) ∨ (geta ts t = some (.tup []) ∧ v = .tup [] ∧ m' = m ∧ rs = [] ∧ ws = []))
variable {C : FuncId → Option (Entry E)} {ops : Array Oper}
theorem lowOps_congr {ts' : List (AV E)} : ∀ (l : List Operand), (∀ x ∈ l, Aeval ts x = Aeval ts' x) → lowOps ts n l = lowOps ts' n l
 | [], _ => rfl
 | x :: l, h => by
  simp only [lowOps]
  rw [h x List.mem_cons_self, lowOps_congr l fun y hy => h y (List.mem_cons_of_mem _ hy)]
theorem RunE.congr {ts' : List (AV E)} {o : Op} {v : AV E} {rs ws : List Nat} (h : ∀ x ∈ o.operands, Aeval ts x = Aeval ts' x) (hy : RunE C m n o v m' rs ws ts) : RunE C m n o v m' rs ws ts' :=
 ⟨hy.same, fun hw => ⟨(hy.quiet hw).1, (hy.quiet hw).2.1, fun m1 hm n1 _ K r hk => by rw [← evOp_congr' h]; exact (hy.quiet hw).2.2 m1 hm n1 K r hk⟩, fun hw => by
  obtain ⟨h1, h2, h3⟩ := hy.move hw
  refine ⟨by rw [← lowOps_congr _ fun x hx => h x (by simpa using hx)]; exact h1, h2, fun mx hm => ?_⟩
  obtain ⟨mx', g1, g2⟩ := h3 mx hm
  exact ⟨mx', g1, fun K r hk => by rw [← evOp_congr' h]; exact g2 K r hk⟩⟩
theorem YE.put {o : Oper} {v : AV E} {rs ws : List Nat} {d : Option Tmp} {u : AV E} (h : ∀ t, d = some t → t ∉ o.looksAt ops) : YE C ops m n o v m' rs ws (putT ts d u) ↔ YE C ops m n o v m' rs ws ts := by
 have h1 : ∀ x ∈ o.op.operands, Aeval (putT ts d u) x = Aeval ts x := fun x hx => Aeval_put fun t ht e => h t ht (by
  subst e
  exact List.mem_append_left _ (List.mem_filterMap.2 ⟨_, by simpa using hx, rfl⟩))
 have hE : RunE C m n o.op v m' rs ws (putT ts d u) ↔ RunE C m n o.op v m' rs ws ts := ⟨fun h => h.congr h1, fun h => h.congr fun x hx => (h1 x hx).symm⟩
 unfold YE
 split
 ·exact hE
 ·rename_i j want hg
  have hgt : ∀ oj t, ops[j]? = some oj → oj.dst = some t → geta (putT ts d u) t = geta ts t := fun oj t h2 h3 => geta_put fun e => h t e (List.mem_append_right _ (by
   rw [hg]; simp [h2, h3]))
  constructor
  ·rintro ⟨oj, t, h2, h3, h4⟩
   rw [hgt oj t h2 h3] at h4
   exact ⟨oj, t, h2, h3, h4.imp_left fun ⟨b, h5, h6⟩ => ⟨b, h5, h6.imp_left fun ⟨h7, h8⟩ => ⟨h7, hE.1 h8⟩⟩⟩
  ·rintro ⟨oj, t, h2, h3, h4⟩
   refine ⟨oj, t, h2, h3, ?_⟩
   rw [hgt oj t h2 h3]
   exact h4.imp_left fun ⟨b, h5, h6⟩ => ⟨b, h5, h6.imp_left fun ⟨h7, h8⟩ => ⟨h7, hE.2 h8⟩⟩
theorem YE_of {o : Oper} {K : List (AV E) → Mem E → Nat → Lg → Option R} (h : evOperE C ops.toList o n ts m K = some r) :
  ∃ v m' rs ws, YE C ops m n o v m' rs ws ts ∧ (ws = [] → m' = m ∧ allLt n (refV v) = true) ∧ (ws ≠ [] → allLt (n + wide) (refV v) = true ∧ postsLt (n + wide) (posts m' ws) = true) ∧
   K (putT ts o.dst v) m' (if ws = [] then n else n + wide) ⟨rs, ws, n, refV v, match ws with
    | [] => []
    | x :: ws => posts m' (x :: ws)⟩ = some r := by
 have ev : oneE C o n ts m K = some r → ∃ v m' rs ws, RunE C m n o.op v m' rs ws ts ∧ (ws = [] → m' = m ∧ allLt n (refV v) = true) ∧ (ws ≠ [] → allLt (n + wide) (refV v) = true ∧ postsLt (n + wide) (posts m' ws) = true) ∧
   K (putT ts o.dst v) m' (if ws = [] then n else n + wide) ⟨rs, ws, n, refV v, match ws with
    | [] => []
    | x :: ws => posts m' (x :: ws)⟩ = some r := fun h => by
  unfold oneE at h
  obtain ⟨v, m', rs, ws, h1, _, F⟩ := runE_facts _ m [] [] _ r h
  refine ⟨v, m', rs, ws, ?_⟩
  cases ws with
  | nil =>
   simp only at h1
   split at h1
   ·rename_i hp hl
    rw [putK_eq] at h1
    obtain ⟨h7, h8⟩ := F.quiet rfl
    subst h7
    exact ⟨⟨F.same, fun _ => ⟨hp, rfl, fun m1 hm n1 _ K r hk => by rw [evOp_n n1 n ts o.op hp]; exact h8 m1 hm K r hk⟩, fun h => absurd rfl h⟩, fun _ => ⟨rfl, hl⟩, fun h => absurd rfl h, by simpa using h1⟩
   ·cases h1
  | cons x ws =>
   simp only at h1
   split at h1
   ·rename_i g1
    split at h1
    ·rename_i g2
     split at h1
     ·rename_i g3
      split at h1
      ·rename_i g4
       simp only [putK_eq, forceN_eq] at h1
       exact ⟨⟨F.same, fun h => (by cases h), fun _ => ⟨g1, g2, fun mx hm => F.move mx hm fun i hi => (by cases hi)⟩⟩, fun h => (by cases h), fun _ => ⟨g3, g4⟩, by simpa using h1⟩
      ·cases h1
     ·cases h1
    ·cases h1
   ·cases h1
 have skip : K (putT ts o.dst (.tup [])) m n ⟨[], [], n, [], []⟩ = some r → ∃ v m' rs ws, (v = .tup [] ∧ m' = m ∧ rs = [] ∧ ws = []) ∧ (ws = [] → m' = m ∧ allLt n (refV v) = true) ∧ (ws ≠ [] → allLt (n + wide) (refV v) = true ∧ postsLt (n + wide) (posts m' ws) = true) ∧
   K (putT ts o.dst v) m' (if ws = [] then n else n + wide) ⟨rs, ws, n, refV v, match ws with
    | [] => []
    | x :: ws => posts m' (x :: ws)⟩ = some r := fun h =>
  ⟨.tup [], m, [], [], ⟨rfl, rfl, rfl, rfl⟩, fun _ => ⟨rfl, rfl⟩, fun h => absurd rfl h, by simpa [refV, refL2] using h⟩
 unfold evOperE at h
 unfold YE
 split at h
 ·rename_i hg
  rw [hg]
  exact ev h
 ·rename_i j want hg
  rw [hg]
  split at h
  ·rename_i oj hoj
   have hoj' : ops[j]? = some oj := by rw [geta_eq] at hoj; rw [← Array.getElem?_toList]; exact hoj
   split at h
   ·rename_i t ht
    split at h
    ·rename_i b hb
     split at h
     ·rename_i hbw
      subst hbw
      rw [setlK_eq, setl_same hb] at h
      obtain ⟨v, m', rs, ws, h1, h2⟩ := ev h
      exact ⟨v, m', rs, ws, ⟨oj, t, hoj', ht, .inl ⟨b, hb, .inl ⟨rfl, h1⟩⟩⟩, h2⟩
     ·rename_i hbw
      have hb' : b = !want := by cases b <;> cases want <;> simp_all
      subst hb'
      rw [setlK_eq, setl_same hb, putK_eq] at h
      obtain ⟨v, m', rs, ws, h1, h2⟩ := skip h
      exact ⟨v, m', rs, ws, ⟨oj, t, hoj', ht, .inl ⟨_, hb, .inr ⟨hbw, h1⟩⟩⟩, h2⟩
    ·rename_i hb
     rw [putK_eq] at h
     obtain ⟨v, m', rs, ws, h1, h2⟩ := skip h
     exact ⟨v, m', rs, ws, ⟨oj, t, hoj', ht, .inr ⟨hb, h1⟩⟩, h2⟩
    ·cases h
   ·cases h
  ·cases h
abbrev Tells (E : Env) := Nat → Oper → AV E → List (AV E) → Prop
def stY (ops : Array Oper) (Y : Tells E) (i : Nat) (K : List (AV E) → Prop) (ts : List (AV E)) : Prop := match ops[i]? with
 | none => K ts
 | some o => ∃ v, Y i o v ts ∧ K (putT ts o.dst v)
def anyY (ops : Array Oper) (Y : Tells E) (Q : Array Bool → List (AV E) → Prop) : Nat → Array Bool → List (AV E) → Prop
 | 0, listed, ts => Region.ready .any ops listed = [] ∧ Q listed ts
 | fuel + 1, listed, ts => (Region.ready .any ops listed = [] → Q listed ts) ∧ ∀ i ∈ Region.ready .any ops listed, stY ops Y i (anyY ops Y Q fuel (listed.setIfInBounds i true)) ts
def Puts (ops : Array Oper) (Y : Tells E) : Prop := ∀ (i : Nat) (o : Oper) (v u : AV E) (d : Option Tmp) (ts : List (AV E)), (∀ t, d = some t → t ∉ o.looksAt ops) → (Y i o v (putT ts d u) ↔ Y i o v ts)
theorem stY_put {Y : Tells E} (hP : Puts ops Y) {i j : Nat} {oi oj : Oper} {v : AV E} (hj : ops[j]? = some oj) (hap : oi.apart ops oj = true) {K : List (AV E) → Prop} {ts : List (AV E)}
  (hy : Y i oi v ts) (h : stY ops Y j K (putT ts oi.dst v)) : stY ops Y j (fun ts' => Y i oi v ts' ∧ K (putT ts' oi.dst v)) ts := by
 obtain ⟨h1, h2, h3⟩ := Oper.apart_spec hap
 unfold stY at *
 simp only [hj] at *
 obtain ⟨u, hu, hk⟩ := h
 exact ⟨u, (hP _ _ _ _ _ _ h1).1 hu, (hP _ _ _ _ _ _ h3).2 hy, by rw [put_comm fun t ht ht' => h2 t ht' ht]; exact hk⟩
theorem stY_mono {Y : Tells E} {i : Nat} {K K' : List (AV E) → Prop} {ts : List (AV E)} (h : ∀ ts, K ts → K' ts) (hh : stY ops Y i K ts) : stY ops Y i K' ts := by
 unfold stY at *
 split
 ·rename_i hi; simp only [hi] at hh; exact h _ hh
 ·rename_i o hi; simp only [hi] at hh; obtain ⟨v, h1, h2⟩ := hh; exact ⟨v, h1, h _ h2⟩
theorem anyY_first {Y : Tells E} (hP : Puts ops Y) {Q : Array Bool → List (AV E) → Prop} {i : Nat} {oi : Oper} {v : AV E} (hi : ops[i]? = some oi) :
  ∀ (fuel : Nat) (listed : Array Bool) (ts : List (AV E)),
   (∀ j oj, ops[j]? = some oj → j ≠ i → listed.getD j true = false → (∀ e ∈ oj.after, Region.binds .any e = true → e.on ≠ i) → oi.apart ops oj = true) →
   i ∈ Region.ready .any ops listed → Y i oi v ts →
   anyY ops Y Q fuel (listed.setIfInBounds i true) (putT ts oi.dst v) → anyY ops Y Q (fuel + 1) listed ts := by
 intro fuel
 induction fuel with
 | zero =>
  intro listed ts _ hr hy H
  refine ⟨fun h => (by rw [h] at hr; cases hr), fun j hj => ?_⟩
  by_cases hji : j = i
  ·subst hji; unfold stY; simp only [hi]; exact ⟨v, hy, H⟩
  ·have := ready_mono hj hji
   rw [H.1] at this
   cases this
 | succ fuel ih =>
  intro listed ts hfree hr hy H
  refine ⟨fun h => (by rw [h] at hr; cases hr), fun j hj => ?_⟩
  by_cases hji : j = i
  ·subst hji; unfold stY; simp only [hi]; exact ⟨v, hy, H⟩
  ·have h1 := H.2 j (ready_mono hj hji)
   obtain ⟨hjun, oj, hoj, hall⟩ := mem_ready.1 hj
   have hnot : ∀ e ∈ oj.after, Region.binds .any e = true → e.on ≠ i := fun e he hb heq => by
    have h1 := hall e he hb
    have h0 := (mem_ready.1 hr).1
    rw [heq] at h1
    rcases Nat.lt_or_ge i listed.size with h' | h'
    ·simp [h'] at h0 h1; rw [h0] at h1; cases h1
    ·simp [Array.getElem?_eq_none h'] at h1
   have h2 := stY_put hP hoj (hfree j oj hoj hji hjun hnot) hy h1
   have hfree' : ∀ k ok, ops[k]? = some ok → k ≠ i → (listed.setIfInBounds j true).getD k true = false →
     (∀ e ∈ ok.after, Region.binds .any e = true → e.on ≠ i) → oi.apart ops ok = true := fun k ok hk hki hun hno => by
    refine hfree k ok hk hki ?_ hno
    by_cases hjk : j = k
    ·subst hjk; exact hjun
    ·rw [getD_set_ne true hjk] at hun; exact hun
   refine stY_mono (fun ts' h3 => ih (listed.setIfInBounds j true) ts' hfree' (ready_mono hr (Ne.symm hji)) h3.1 ?_) h2
   rw [Array.setIfInBounds_comm _ _ hji]
   exact h3.2
def seqY (Y : Tells E) (Q : List (AV E) → Prop) : List Oper → Nat → List (AV E) → Prop
 | [], _, ts => Q ts
 | o :: l, k, ts => ∃ v, Y k o v ts ∧ seqY Y Q l (k + 1) (putT ts o.dst v)
theorem anyY_lex {Y : Tells E} (hP : Puts ops Y) {Q : List (AV E) → Prop} : ∀ (l : List Oper) (k : Nat) (listed : Array Bool) (ts : List (AV E)), (∀ j, l[j]? = ops[k + j]?) → (∀ j, j < k → listed.getD j true = true) →
  Region.lexFrom .any ops l.length k listed = true → seqY Y Q l k ts → anyY ops Y (fun listed ts => (∀ j, j < ops.size → listed.getD j true = true) ∧ Q ts) l.length listed ts
 | [], k, listed, ts, hl, hd, hB, h => by
  refine ⟨by simpa [Region.lexFrom] using hB, fun j hj => hd j ?_, h⟩
  have := hl 0
  simp at this
  omega
 | o :: l, k, listed, ts, hl, hd, hB, h => by
  have h0 : ops[k]? = some o := by simpa using (hl 0).symm
  simp only [List.length_cons, Region.lexFrom, Bool.and_eq_true] at hB
  obtain ⟨⟨hr, hf⟩, hB'⟩ := hB
  obtain ⟨v, hy, hK⟩ := h
  refine anyY_first hP h0 l.length listed ts (Region.free_spec h0 hf) (by simpa using hr) hy
   (anyY_lex hP l (k + 1) _ _ (fun j => by have := hl (j + 1); simpa [Nat.add_assoc, Nat.add_comm 1 j] using this) (fun j hj => ?_) hB' hK)
  by_cases hjk : k = j
  ·subst hjk
   by_cases hk : k < listed.size
   ·simp [hk]
   ·simp [Array.getElem?_eq_none (Nat.not_lt.1 hk)]
  ·rw [getD_set_ne true hjk]; exact hd j (by omega)
theorem seqY_none {Y : Tells E} : ∀ (l : List Oper) (k : Nat) (ts : List (AV E)), seqY Y (fun _ => (none : Option R) = some r) l k ts → False
 | [], _, ts, h => by cases h
 | o :: l, k, ts, ⟨v, _, h⟩ => seqY_none l (k + 1) _ h
end
end Go.B
