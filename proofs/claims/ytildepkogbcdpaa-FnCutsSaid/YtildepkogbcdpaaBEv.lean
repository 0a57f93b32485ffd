/- A whole function: its contract out of the reckoner's answer. -/
import Derived.Test.YtildepkogbcdpaaBFun
namespace Go.B
open Go Go.RowKit
set_option linter.unusedVariables false
set_option linter.unusedSimpArgs false
variable {E : Env} {P : Program}

theorem inT_get : ∀ (ps : List (P2 E)) (i j : Nat), (inT i ps)[j]? = (ps[j]?).map fun p => .v (inA (i + j) p)
  | [], i, j => by simp [inT]
  | p :: ps, i, 0 => by simp [inT]
  | p :: ps, i, j + 1 => by
    simp only [inT, List.getElem?_cons_succ]
    rw [inT_get ps (i + 1) j, Nat.add_assoc, Nat.add_comm 1 j]
theorem inT_length : ∀ (ps : List (P2 E)) (i : Nat), (inT i ps).length = ps.length
  | [], i => rfl
  | p :: ps, i => by simp [inT, inT_length ps]
theorem inM_look : ∀ (ps : List (P2 E)) (i k : Nat) (b : Blk E), look (inM i ps) k = some b → ∃ j cs, k = i + j ∧ ps[j]? = some (.v (.ptr cs)) ∧ b = .box (cs.map seeC)
  | [], i, k, b, h => by simp [inM, look] at h
  | p :: ps, i, k, b, h => by
    have rest : look (inM (i + 1) ps) k = some b → ∃ j cs, k = i + j ∧ (p :: ps)[j]? = some (.v (.ptr cs)) ∧ b = .box (cs.map seeC) := fun h => by
      obtain ⟨j, cs, h1, h2, h3⟩ := inM_look ps (i + 1) k b h
      exact ⟨j + 1, cs, by omega, by simpa using h2, h3⟩
    unfold inM at h
    split at h
    · rename_i h1; cases h1
    · rename_i h1
      cases h1
      simp only [look] at h
      split at h
      · rename_i e _; subst e; cases h; exact ⟨0, _, rfl, rfl, rfl⟩
      · exact rest h
    · rename_i h1; cases h1; exact rest h
theorem inM_some : ∀ (ps : List (P2 E)) (i j : Nat) (cs : List (Cell E.T)), ps[j]? = some (.v (.ptr cs)) → look (inM i ps) (i + j) = some (.box (cs.map seeC))
  | [], i, j, cs, h => by simp at h
  | p :: ps, i, 0, cs, h => by
    simp at h; subst h
    simp only [inM, look, Nat.add_zero]
    cases decEq i i with
    | isTrue _ => rfl
    | isFalse h => exact absurd rfl h
  | p :: ps, i, j + 1, cs, h => by
    have ih := inM_some ps (i + 1) j cs (by simpa using h)
    rw [Nat.add_assoc, Nat.add_comm 1 j] at ih
    cases p with
    | v p => cases p with
      | ptr cs' =>
        simp only [inM, look]
        cases decEq i (i + (j + 1)) with
        | isTrue e => omega
        | isFalse _ => exact ih
      | c _ => simpa only [inM] using ih
    | g _ => simpa only [inM] using ih
section
variable {w w0 : World} {G : Gh} {m : Mem E} {n : Nat}
theorem seeC_rel {c : Cell E.T} {u : Value} (h : Rd E w G.I u c) : A1r E G w m n (seeC c) u := by
  cases c with
  | s v => exact h.to_s
  | sl e xs => exact h
theorem seeL_rel {cs : List (Cell E.T)} {arr : Array Value} (h1 : arr.size = cs.length) (h2 : ∀ (j : Nat) (c : Cell E.T), cs[j]? = some c → Rd E w G.I (arr.getD j undef) c) : A1l E G w m n (cs.map seeC) arr := by
  refine ⟨by simp [h1], fun j b hj => ?_⟩
  rw [List.getElem?_map] at hj
  obtain ⟨c, hc, rfl⟩ := Option.map_eq_some_iff.1 hj
  exact ⟨seeC_rel (h2 j c hc), (h2 j c hc).one⟩
theorem results_run (hE : EnvOK E P) {I0 : Ent} {Φ : Nat → Prop} {act : Act} {fn : Func} {rs : List ResultVar} (hrs : fn.results = rs.toArray) {ts : List (AV E)} (hM : Mr E w0 Φ I0 G m n w) (hT : Tr E G ts m n act w) {as : List (AV E)} (h : resAt ts m rs = some as) :
    ∃ vs : List Value, (results fn act.tmps).run P w = .ok (if vs.length = 1 then vs.getD 0 undef else .tuple vs.toArray) w ∧ vs.length = as.length ∧ ∀ (j : Nat) (b : AV E), as[j]? = some b → AVr E G w m n b (vs.getD j undef) := by
  have key : ∀ (rs : List ResultVar) (as : List (AV E)), resAt ts m rs = some as → ∃ vs : List Value, (rs.mapM fun (x : ResultVar) => match x with
      | .tmp t => (pure (act.tmps.getD t undef) : Sem Value)
      | .cell a t => do loadVar t (← asAddr (act.tmps.getD a undef))).run P w = .ok vs w ∧ vs.length = as.length ∧ ∀ (j : Nat) (b : AV E), as[j]? = some b → AVr E G w m n b (vs.getD j undef) := by
    intro rs
    induction rs with
    | nil => intro as h; simp only [resAt] at h; cases h; exact ⟨[], by simp, rfl, fun j b hj => by simp at hj⟩
    | cons x rs ih =>
      intro as h
      cases x with
      | cell a t =>
        simp only [resAt] at h
        split at h
        · rename_i i p hi hp
          split at h
          · rename_i v hv
            split at h
            · rename_i as' has
              cases h
              obtain ⟨vs, h1, h2, h3⟩ := ih as' has
              classical
              have hr : (loadA i p).run m (fun v' m' => if v' = v ∧ m' = m then some () else none) = some () :=
                run_of_runD _ m (fun v' => if v' = v then some () else none) _ () (fun v' hv' => by
                  split at hv'
                  · rename_i e; simp [e]
                  · cases hv') (by
                  obtain ⟨v0, e1, e2⟩ := runD_nat _ m some v hv
                  cases e1
                  exact e2 _ () (by simp))
              obtain ⟨v', m1, G1, u, e1, e2, _, _, e3, e4⟩ := load_sound hE hM hT hi (hT.get hp).2 hr
              obtain ⟨rfl, rfl⟩ := e4 fun v1 m1 h1 => by
                split at h1
                · rename_i e; exact e.2
                · cases h1
              split at e1
              · rename_i e
                obtain ⟨rfl, _⟩ := e
                have e2' : (do loadVar t (← asAddr (act.tmps.getD a undef)) : Sem Value).run P w = .ok u w := by
                  revert e2
                  generalize act.tmps.getD a undef = z
                  intro e2
                  cases z with
                  | pointer q => cases q with
                    | none => simp [Instr.loadAt, Instr.sureAddr] at e2
                    | some q => simpa [Instr.loadAt, Instr.sureAddr, asAddr] using e2
                  | _ => simp [Instr.loadAt, Instr.sureAddr] at e2
                refine ⟨u :: vs, by simp only [List.mapM_cons, Sem.run_bind] at e2' ⊢; simp only [e2', Sem.run_bind, Sem.run_pure, Result.andThen_ok, h1], by simp [h2], fun j c hj => ?_⟩
                cases j with
                | zero => simp at hj; subst hj; exact e3
                | succ j => simpa using h3 j c (by simpa using hj)
              · cases e1
            · cases h
          · cases h
        · cases h
      | tmp t =>
        simp only [resAt] at h
        split at h
        · rename_i b hb
          split at h
          · rename_i as' has
            cases h
            obtain ⟨vs, h1, h2, h3⟩ := ih as' has
            refine ⟨act.tmps.getD t undef :: vs, by simp only [List.mapM_cons, Sem.run_bind, Sem.run_pure, Result.andThen_ok, h1], by simp [h2], fun j c hj => ?_⟩
            cases j with
            | zero => simp at hj; subst hj; exact (hT.get hb).2
            | succ j => simpa using h3 j c (by simpa using hj)
          · cases h
        · cases h
  obtain ⟨vs, h1, h2, h3⟩ := key rs as h
  refine ⟨vs, ?_, h2, h3⟩
  unfold results
  rw [hrs]
  simp only [Sem.run_bind, Array.mapM_eq_mapM_toList, List.toList_toArray, Sem.run_map]
  refine (congrArg (fun r => Result.andThen (Result.andThen r _) _) h1).trans ?_
  simp only [Result.andThen_ok, Sem.run_pure]
  congr 1
  by_cases hv : vs.length = 1
  · simp [hv, List.getD_eq_getElem?_getD]
  · simp [hv]
end
theorem evF_sound (hE : EnvOK E P) {X : Ctx E} (hC : CSound E P X.C) {f : FuncId} {fn : Func} {c : Code} {rs : List ResultVar} (hH : HOK X c) (hf : P.funcs[f]? = some fn) (hb : fn.body = some c) (hrs : fn.results = rs.toArray) : SoundF E P f (evF X c fn.ntmps rs) := by
  intro ps res h vals w I Φ g hI hΦ hA
  unfold evF at h
  rw [forceT_eq, forceM_eq] at h
  let I0 : Ent := ⟨I, g, ps.length⟩
  let G : Gh := { hd := fun _ => .bool false, bk := g, fp := fun j k => (∃ cs, ps[j]? = some (.v (.ptr cs))) ∧ k = g j, I := I }
  have hM : Mr E w Φ I0 G (inM 0 ps) ps.length w := by
    refine ⟨Frame.refl Φ w, fun j b hj => ?_, fun j b hj => ?_, fun j b hj k hk => ?_, fun i j b b' hi hj hij k hk hk' => ?_, fun k hk => (hI k hk).1, fun k hk => .inl hk, fun k hk => hk, Nat.le_refl _, fun j cs _ _ => rfl⟩
    · obtain ⟨i, cs, h1, h2, _⟩ := inM_look ps 0 j b hj
      rw [Nat.zero_add] at h1; subst h1
      exact (List.getElem?_eq_some_iff.1 h2).1
    · obtain ⟨i, cs, h1, h2, rfl⟩ := inM_look ps 0 j b hj
      rw [Nat.zero_add] at h1; subst h1
      obtain ⟨_, ⟨arr, ty, q1, q2, q3⟩, _⟩ := hA.ptr _ cs h2
      exact ⟨⟨arr, ty, q1, seeL_rel q2 q3⟩, ⟨cs, h2⟩, rfl⟩
    · obtain ⟨⟨cs, h1⟩, rfl⟩ := hk
      obtain ⟨_, _, h2⟩ := hA.ptr _ cs h1
      exact ⟨.inr h2, (hΦ _ h2).1, fun hIk => (hI _ hIk).2 h2⟩
    · obtain ⟨⟨cs, h1⟩, rfl⟩ := hk
      obtain ⟨⟨cs', h1'⟩, h2⟩ := hk'
      exact hij (hA.inj _ _ cs cs' h1 h1' h2)
  have hvl : vals.size = ps.length := hA.len
  have hT : Tr E G (inT 0 ps ++ List.replicate (fn.ntmps - ps.length) (.tup [])) (inM 0 ps) ps.length { tmps := vals ++ Array.replicate (fn.ntmps - vals.size) undef, defers := [] } w := by
    refine ⟨rfl, by simp [inT_length, hvl], fun t x hx => ?_⟩
    by_cases ht : t < ps.length
    · rw [List.getElem?_append_left (by rw [inT_length]; exact ht), inT_get, List.getElem?_eq_getElem ht] at hx
      simp only [Option.map_some, Option.some.injEq] at hx
      subst hx
      have hv : (vals ++ Array.replicate (fn.ntmps - vals.size) undef).getD t undef = vals.getD t undef := by
        rw [Array.getD_eq_getD_getElem?, Array.getElem?_append_left (by omega), ← Array.getD_eq_getD_getElem?]
      rw [hv]
      have hpt : ps[t]? = some ps[t] := List.getElem?_eq_getElem ht
      generalize ps[t] = p at hpt
      cases p with
      | v p =>
        cases p with
        | c c => exact seeC_rel (hA.c t c hpt)
        | ptr cs =>
          obtain ⟨h1, _, _⟩ := hA.ptr t cs hpt
          simp only [inA, Nat.zero_add]
          exact ⟨ht, by rw [h1]; rfl, fun _ _ => h1⟩
      | g cs =>
        obtain ⟨arr, h1, h2, h3⟩ := hA.gg t cs hpt
        exact ⟨arr, h1, seeL_rel h2 h3⟩
    · rw [List.getElem?_append_right (by rw [inT_length]; omega)] at hx
      have hx' := List.mem_of_getElem? hx
      rw [List.mem_replicate] at hx'
      rw [hx'.2]
      have : (vals ++ Array.replicate (fn.ntmps - vals.size) undef).getD t undef = undef := by
        rw [Array.getD_eq_getD_getElem?, Array.getElem?_append_right (by omega), Array.getElem?_replicate]
        split <;> rfl
      rw [this]
      exact undef_rel
  refine calls_of_wp hf hb (evC_sound (S := ⟨_, _, _⟩) hE hC c hH h hM hT fun e S' G' a' w' hk hM' hT' => ?_)
  have fin_ : fin rs ps S' = some res → a'.defers = [] ∧ ∃ v, (results fn a'.tmps).run P w' = .ok v w' ∧ ∃ v' I' fp, Ending.returned v = .returned v' ∧ Post E w w' I Φ g ps res v' I' fp := fun hk => by
    refine ⟨hT'.df, ?_⟩
    unfold fin at hk
    split at hk
    · rename_i as has
      obtain ⟨vs, r1, r2, r3⟩ := results_run (P := P) hE hrs hM' hT' has
      obtain ⟨q, m2, fp, h2, hM2, hs2, hl2, hq, hgone, hdis⟩ := outVs_sound as (fun j => vs.getD j undef) hM' r3 hk
      split at h2
      · rename_i us hus
        cases h2
        obtain ⟨b1, b2, b3⟩ := backM_sound hM2 ps 0 hus
        have hbk : ∀ (j : Nat) (cs : List (Cell E.T)), ps[j]? = some (.v (.ptr cs)) → ∃ bs, look m2 j = some (.box bs) ∧ G'.bk j = g j ∧ G'.fp j (g j) := fun j cs hj => by
          obtain ⟨bs, e1⟩ := b2 j cs hj
          rw [Nat.zero_add] at e1
          have e2 : G'.bk j = g j := hM2.an j bs ((List.getElem?_eq_some_iff.1 hj).1) e1
          obtain ⟨_, e3⟩ := hM2.bl j _ e1
          exact ⟨bs, e1, e2, by rw [← e2]; exact e3⟩
        have hnΦ : ∀ k, G'.I k → ¬ Φ k := fun k hk hp => by
          obtain ⟨_, j, cs, hj, rfl⟩ := hΦ k hp
          obtain ⟨bs, e1, _, e3⟩ := hbk j cs hj
          exact (hM2.lo j _ e1 _ e3).2.2 hk
        refine ⟨_, r1, _, G'.I, fp, rfl, hM'.fr, fun k hk => hM'.ip k hk, fun k hk => ?_, ?_, fun i j k hk => ?_, hdis, b1, fun j cs u hj hu => ?_⟩
        · rcases hM'.ii k hk with h1 | h1 | h1
          · exact .inl h1
          · exact .inr ⟨h1, hM'.il k hk⟩
          · exact absurd h1 (hnΦ k hk)
        · have hlen : q.length = vs.length := by rw [hl2, r2]
          show RVr E w' G'.I fp (one q) _
          unfold one
          split
          · rename_i x _
            have hv1 : vs.length = 1 := by rw [← hlen]; rfl
            rw [if_pos hv1]
            exact hq 0 x rfl
          · rename_i hne
            have hv1 : ¬ vs.length = 1 := fun e => by
              rw [← hlen] at e
              match q, e with
              | [x], _ => exact hne x rfl
            rw [if_neg hv1]
            exact ⟨vs.toArray, rfl, by simp [hlen], fun j x hj => by
              have := hq j x hj
              rwa [show vs.toArray.getD j undef = vs.getD j undef by simp [Array.getD_eq_getD_getElem?, List.getD_eq_getElem?_getD]]⟩
        · have hg := hgone i j k hk
          obtain ⟨id, b, g1, g2, g3⟩ := hg
          obtain ⟨l1, l2, l3⟩ := hM'.lo id b g1 k g3
          refine ⟨l1.elim (fun h => h) fun hp => ?_, l2, l3⟩
          obtain ⟨_, j', cs, hj, rfl⟩ := hΦ k hp
          obtain ⟨bs, e1, _, e3⟩ := hbk j' cs hj
          have e1' := hs2 _ _ e1
          exact (hM'.dj id j' b _ g1 e1' (fun e => by subst e; rw [e1] at g2; cases g2) _ g3 e3).elim
        · have := b3 j cs u hj hu
          rw [Nat.zero_add] at this
          obtain ⟨_, _, e2, _⟩ := hbk j cs hj
          rwa [e2] at this
      · cases h2
    · cases hk
  cases e with
  | normal => exact fin_ hk
  | ret => exact fin_ hk
  | _ => cases hk
end Go.B
