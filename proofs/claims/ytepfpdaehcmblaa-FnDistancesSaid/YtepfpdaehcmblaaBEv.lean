/- A whole function: its contract out of the reckoner's answer. -/
import Derived.Test.YtepfpdaehcmblaaBFun
namespace Go.B
open Go Go.RowKit
set_option linter.unusedVariables false
set_option linter.unusedSimpArgs false
variable {E : Env} {P : Program}
theorem inT_get {b : Nat} : ∀ (ps : List (P2 E)) (i j : Nat), (inT b i ps)[j]? = (ps[j]?).map fun p => .v (inA b (i + j) p)
 | [], i, j => by simp [inT]
 | p :: ps, i, 0 => by simp [inT]
 | p :: ps, i, j + 1 => by
  simp only [inT, List.getElem?_cons_succ]
  rw [inT_get ps (i + 1) j, Nat.add_assoc, Nat.add_comm 1 j]
theorem inT_length {b : Nat} : ∀ (ps : List (P2 E)) (i : Nat), (inT b i ps).length = ps.length
 | [], i => rfl
 | p :: ps, i => by simp [inT, inT_length ps]
theorem inL_get : ∀ (cs : List (Cell E.T)) (i l : Nat), (inL i cs)[l]? = (cs[l]?).map fun c => match c with | .wr _ _ => .row (i + l) | c => seeC c
 | [], i, l => by simp [inL]
 | c :: cs, i, 0 => by cases c <;> simp [inL]
 | c :: cs, i, l + 1 => by
  have := inL_get cs (i + 1) l
  rw [Nat.add_assoc, Nat.add_comm 1 l] at this
  cases c <;> simpa [inL] using this
theorem inML_look : ∀ (cs : List (Cell E.T)) (i k : Nat) (m : Mem E) (b : Blk E), look (inML i cs m) k = some b → (∃ l e xs, k = i + l ∧ cs[l]? = some (.wr e xs) ∧ b = .row true e xs) ∨ look m k = some b
 | [], i, k, m, b, h => .inr h
 | c :: cs, i, k, m, b, h => by
  have rest : look (inML (i + 1) cs m) k = some b → (∃ l e xs, k = i + l ∧ (c :: cs)[l]? = some (.wr e xs) ∧ b = .row true e xs) ∨ look m k = some b := fun h => by
   rcases inML_look cs (i + 1) k m b h with ⟨l, e, xs, h1, h2, h3⟩ | h
   ·exact .inl ⟨l + 1, e, xs, by omega, by simpa using h2, h3⟩
   ·exact .inr h
  cases c with
  | wr e xs =>
   simp only [inML, look] at h
   split at h
   ·rename_i e1 _; cases h; exact .inl ⟨0, e, xs, e1.symm, rfl, rfl⟩
   ·exact rest h
  | s v => exact rest h
  | sl e xs => exact rest h
theorem inM_look {c0 : Nat} : ∀ (ps : List (P2 E)) (i k : Nat) (b : Blk E), look (inM c0 i ps) k = some b → (∃ j cs, k = i + j ∧ ps[j]? = some (.v (.ptr cs)) ∧ b = .box (cs.map seeC)) ∨ ∃ j l e xs, k = wid c0 (i + j) l ∧ WrAt ps j l e xs ∧ b = .row true e xs
 | [], i, k, b, h => by simp [inM, look] at h
 | p :: ps, i, k, b, h => by
  have rest : look (inM c0 (i + 1) ps) k = some b → (∃ j cs, k = i + j ∧ (p :: ps)[j]? = some (.v (.ptr cs)) ∧ b = .box (cs.map seeC)) ∨ ∃ j l e xs, k = wid c0 (i + j) l ∧ WrAt (p :: ps) j l e xs ∧ b = .row true e xs := fun h => by
   rcases inM_look ps (i + 1) k b h with ⟨j, cs, h1, h2, h3⟩ | ⟨j, l, e, xs, h1, ⟨p', h2, h3⟩, h4⟩
   ·exact .inl ⟨j + 1, cs, by omega, by simpa using h2, h3⟩
   ·exact .inr ⟨j + 1, l, e, xs, by rw [h1]; simp only [wid]; omega, ⟨p', by simpa using h2, h3⟩, h4⟩
  unfold inM at h
  split at h
  ·rename_i h1; cases h1
  ·rename_i h1
   cases h1
   simp only [look] at h
   split at h
   ·rename_i e _; subst e; cases h; exact .inl ⟨0, _, rfl, rfl, rfl⟩
   ·exact rest h
  ·rename_i e xs _ h1
   cases h1
   simp only [look] at h
   split at h
   ·rename_i e1 _; subst e1; cases h; exact .inr ⟨0, 0, e, xs, rfl, ⟨_, rfl, rfl⟩, rfl⟩
   ·exact rest h
  ·rename_i cs _ h1
   cases h1
   rcases inML_look cs _ k _ b h with ⟨l, e, xs, h1, h2, h3⟩ | h
   ·exact .inr ⟨0, l, e, xs, by rw [h1]; simp only [wid]; omega, ⟨_, rfl, h2⟩, h3⟩
   ·exact rest h
  ·rename_i h1; cases h1; exact rest h
theorem smallP_get : ∀ {ps : List (P2 E)} {j : Nat} {p : P2 E}, smallP ps = true → ps[j]? = some p → (pcells p).length ≤ 64
 | [], j, p, _, h => by simp at h
 | q :: ps, j, p, hs, h => by
  have h1 : (pcells q).length ≤ 64 ∧ smallP ps = true := by
   cases q with
   | g cs => simp only [smallP, Bool.and_eq_true, Nat.ble_eq] at hs; exact hs
   | v x => cases x <;> exact ⟨by simp [pcells], hs⟩
  cases j with
  | zero => simp at h; subst h; exact h1.1
  | succ j => exact smallP_get h1.2 (by simpa using h)
theorem WrAt.lt {ps : List (P2 E)} {j l : Nat} {e : TypeId} {xs : List (E.T e)} (h : WrAt ps j l e xs) (hs : smallP ps = true) : j < ps.length ∧ l < 64 := by
 obtain ⟨p, h1, h2⟩ := h
 exact ⟨(List.getElem?_eq_some_iff.1 h1).1, Nat.lt_of_lt_of_le (List.getElem?_eq_some_iff.1 h2).1 (smallP_get hs h1)⟩
theorem hasW_of : ∀ {ps : List (P2 E)} {j l : Nat} {e : TypeId} {xs : List (E.T e)}, WrAt ps j l e xs → hasW ps = true
 | [], j, l, e, xs, ⟨p, h, _⟩ => by simp at h
 | q :: ps, j, l, e, xs, ⟨p, h, h2⟩ => by
  cases j with
  | zero =>
   simp at h; subst h
   cases q with
   | g cs =>
    simp only [hasW]
    cases hw : hasWL cs with
    | true => rfl
    | false => exact (hasWL_false hw h2).elim
   | v x =>
    cases x with
    | ptr cs => simp [pcells] at h2
    | ro e x => simp [pcells] at h2
    | fn f xs => simp [pcells] at h2
    | c c =>
     cases l with
     | zero => simp [pcells] at h2; subst h2; rfl
     | succ l => simp [pcells] at h2
  | succ j =>
   have ih := hasW_of (ps := ps) (j := j) ⟨p, by simpa using h, h2⟩
   cases q with
   | g cs =>
    simp only [hasW]
    split
    ·rfl
    ·exact ih
   | v x =>
    cases x with
    | ptr cs => simpa only [hasW] using ih
    | ro e x => simpa only [hasW] using ih
    | fn f xs => simpa only [hasW] using ih
    | c c => cases c <;> simp [hasW, ih]
theorem wid_inj {b j l j' l' : Nat} (h : wid b j l = wid b j' l') (hl : l < 64) (hl' : l' < 64) : j = j' ∧ l = l' := by
 simp only [wid] at h; omega
section
variable {w w0 : World} {G : Gh} {m : Mem E} {n : Nat}
theorem seeC_rel {c : Cell E.T} {u : Value} (h : Rd E w G.I u c) : A1r E G w m n (seeC c) u := by
 cases c with
 | s v => exact h.to_s
 | sl e xs => exact h
 | wr e xs => nomatch h
theorem seeL_rel {cs : List (Cell E.T)} {arr : Array Value} (h1 : arr.size = cs.length) (h2 : ∀ (j : Nat) (c : Cell E.T), cs[j]? = some c → Rd E w G.I (arr.getD j undef) c) : A1l E G w m n (cs.map seeC) arr := by
 refine ⟨by simp [h1], fun j b hj => ?_⟩
 rw [List.getElem?_map] at hj
 obtain ⟨c, hc, rfl⟩ := Option.map_eq_some_iff.1 hj
 exact ⟨seeC_rel (h2 j c hc), (h2 j c hc).one⟩
theorem results_run (hE : EnvOK E P) {I0 : Ent} {Φ : Nat → Prop} {act : Act} {fn : Func} {rs : List ResultVar} (hrs : fn.results = rs.toArray) {ts : List (AV E)} (hM : Mr E w0 Φ I0 G m n w) (hT : Tr E G ts m n act w) {as : List (AV E)} (h : resAt ts m rs = some as) :
  ∃ vs : List Value, (results fn act.tmps).run P w = .ok (if vs.length = 1 then vs.getD 0 undef else .tuple vs.toArray) w ∧ vs.length = as.length ∧ ∀ (j : Nat) (b : AV E), as[j]? = some b → AVr E G w m n b (vs.getD j undef) := by
 have key : ∀ (rs : List ResultVar) (as : List (AV E)), resAt ts m rs = some as → ∃ vs : List Value, (rs.mapM fun (x : ResultVar) => match x with
   | .tmp t => (pure (act.tmps.getD t undef) : Sem Value)
   | .cell a t => do loadVar t (← asAddr (act.tmps.getD a undef))).run P w = .ok vs w ∧ vs.length = as.length ∧ ∀ (j : Nat) (b : AV E), as[j]? = some b → AVr E G w m n b (vs.getD j undef) := by
  intro rs
  induction rs with
  | nil => intro as h; simp only [resAt] at h; cases h; exact ⟨[], by simp, rfl, fun j b hj => by simp at hj⟩
  | cons x rs ih =>
   intro as h
   cases x with
   | cell a t =>
    simp only [resAt] at h
    split at h
    ·rename_i i p hi hp
     split at h
     ·rename_i v hv
      split at h
      ·rename_i as' has
       cases h
       obtain ⟨vs, h1, h2, h3⟩ := ih as' has
       classical
       have hr : (loadA i p).run m (fun v' m' => if v' = v ∧ m' = m then some () else none) = some () :=
        run_of_runD _ m (fun v' => if v' = v then some () else none) _ () (fun v' hv' => by
         split at hv'
         ·rename_i e; simp [e]
         ·cases hv') (by
         obtain ⟨v0, e1, e2⟩ := runD_nat _ m some v hv
         cases e1
         exact e2 _ () (by simp))
       obtain ⟨v', m1, G1, u, e1, e2, _, _, e3, e4⟩ := load_sound hE hM hT hi (hT.get hp).2 hr
       obtain ⟨rfl, rfl⟩ := e4 fun v1 m1 h1 => by
        split at h1
        ·rename_i e; exact e.2
        ·cases h1
       split at e1
       ·rename_i e
        obtain ⟨rfl, _⟩ := e
        have e2' : (do loadVar t (← asAddr (act.tmps.getD a undef)) : Sem Value).run P w = .ok u w := by
         revert e2
         generalize act.tmps.getD a undef = z
         intro e2
         cases z with
         | pointer q => cases q with
          | none => simp [Instr.loadAt, Instr.sureAddr] at e2
          | some q => simpa [Instr.loadAt, Instr.sureAddr, asAddr] using e2
         | _ => simp [Instr.loadAt, Instr.sureAddr] at e2
        refine ⟨u :: vs, by simp only [List.mapM_cons, Sem.run_bind] at e2' ⊢; simp only [e2', Sem.run_bind, Sem.run_pure, Result.andThen_ok, h1], by simp [h2], fun j c hj => ?_⟩
        cases j with
        | zero => simp at hj; subst hj; exact e3
        | succ j => simpa using h3 j c (by simpa using hj)
       ·cases e1
      ·cases h
     ·cases h
    ·cases h
   | tmp t =>
    simp only [resAt] at h
    split at h
    ·rename_i b hb
     split at h
     ·rename_i as' has
      cases h
      obtain ⟨vs, h1, h2, h3⟩ := ih as' has
      refine ⟨act.tmps.getD t undef :: vs, by simp only [List.mapM_cons, Sem.run_bind, Sem.run_pure, Result.andThen_ok, h1], by simp [h2], fun j c hj => ?_⟩
      cases j with
      | zero => simp at hj; subst hj; exact (hT.get hb).2
      | succ j => simpa using h3 j c (by simpa using hj)
     ·cases h
    ·cases h
 obtain ⟨vs, h1, h2, h3⟩ := key rs as h
 refine ⟨vs, ?_, h2, h3⟩
 unfold results
 rw [hrs]
 simp only [Sem.run_bind, Array.mapM_eq_mapM_toList, List.toList_toArray, Sem.run_map]
 refine (congrArg (fun r => Result.andThen (Result.andThen r _) _) h1).trans ?_
 simp only [Result.andThen_ok, Sem.run_pure]
 congr 1
 by_cases hv : vs.length = 1
 ·simp [hv, List.getD_eq_getElem?_getD]
 ·simp [hv]
end
theorem evF_sound (hE : EnvOK E P) {X : Ctx E} (hC : CSound E P X.C) {f : FuncId} {fn : Func} {c : Code} {rs : List ResultVar} (hH : HOK X c) (hf : P.funcs[f]? = some fn) (hb : fn.body = some c) (hrs : fn.results = rs.toArray) : SoundF E P f (evF X c fn.ntmps rs) := by
 intro ps res h vals w I Φ g F hI hgl hΦ hA
 unfold evF at h
 split at h
 case h_2 => cases h
 rename_i hck
 simp only [Bool.and_eq_true, Bool.or_eq_true, Bool.not_eq_true', Nat.ble_eq] at hck
 obtain ⟨hsm, hnp⟩ := hck
 rw [forceT_eq, forceM_eq] at h
 let b := ps.length
 let hd : Nat → Value := fun k => match ps[(k - b) / 64]? with
  | some p => cellV p (vals.getD ((k - b) / 64) undef) ((k - b) % 64)
  | none => undef
 have hhd : ∀ {j l p}, ps[j]? = some p → l < 64 → hd (wid b j l) = cellV p (vals.getD j undef) l := fun {j l p} hp hl => by
  have h1 : (wid b j l - b) / 64 = j := by simp only [wid]; omega
  have h2 : (wid b j l - b) % 64 = l := by simp only [wid]; omega
  simp only [hd, h1, h2, hp]
 have hn0 : ps.length ≤ n0 ps := by unfold n0; split <;> omega
 have hwid : ∀ {j l e} {xs : List (E.T e)}, WrAt ps j l e xs → wid b j l < n0 ps ∧ ps.length ≤ wid b j l := fun {j l e xs} hw => by
  obtain ⟨h1, h2⟩ := hw.lt hsm
  unfold n0
  rw [hasW_of hw]
  simp only [wid, b]
  omega
 let I0 : Ent := ⟨I, g, n0 ps, hd, if hasW ps = true then n0 ps else 0, by split <;> omega⟩
 haveI : GlobOK E w Φ I0 := ⟨hgl, hI⟩
 have hz : I0.M ≤ X.np := by
  show (if hasW ps = true then n0 ps else 0) ≤ X.np
  rcases hnp with h1 | h1
  ·rw [h1]; simp
  ·split <;> omega
 let G : Gh := { hd := hd, bk := g, fp := fun k y => ((∃ cs, ps[k]? = some (.v (.ptr cs))) ∧ y = g k) ∨ ∃ j l e xs, k = wid b j l ∧ WrAt ps j l e xs ∧ F j l y, I := I }
 have row : ∀ {j l e} {xs : List (E.T e)}, WrAt ps j l e xs → Ow E w (F j l) (hd (wid b j l)) (.sl e xs) := fun {j l e xs} hw => by
  obtain ⟨h1, h2⟩ := hw.lt hsm
  obtain ⟨p, h3, h4⟩ := hw
  rw [hhd h3 h2]
  cases p with
  | v x =>
   cases x with
   | ptr cs => simp [pcells] at h4
   | ro e x => simp [pcells] at h4
   | fn f xs => simp [pcells] at h4
   | c c =>
    cases l with
    | zero => simp [pcells] at h4; subst h4; exact hA.c j _ h3
    | succ l => simp [pcells] at h4
  | g cs =>
   obtain ⟨arr, e1, e2, e3⟩ := hA.gg j cs h3
   have := e3 l _ h4
   simp only [cellV, e1]
   exact this
 have hM : Mr E w Φ I0 G (inM b 0 ps) (n0 ps) w := by
  refine ⟨Frame.refl Φ w, fun j b hj => ?_, fun j b hj => ?_, fun j b hj k hk => ?_, fun i j b b' hi hj hij k hk hk' => ?_, fun k hk => (hI k hk).1, fun k hk => .inl hk, fun k hk => hk, Nat.le_refl _, fun j cs _ _ => rfl, fun j d e xs _ _ => rfl⟩
  ·rcases inM_look ps 0 j b hj with ⟨i, cs, h1, h2, _⟩ | ⟨i, l, e, xs, h1, h2, _⟩
   ·rw [Nat.zero_add] at h1; subst h1
    exact Nat.lt_of_lt_of_le (List.getElem?_eq_some_iff.1 h2).1 hn0
   ·rw [Nat.zero_add] at h1; subst h1
    exact (hwid h2).1
  ·rcases inM_look ps 0 j b hj with ⟨i, cs, h1, h2, rfl⟩ | ⟨i, l, e, xs, h1, h2, rfl⟩
   ·rw [Nat.zero_add] at h1; subst h1
    obtain ⟨_, ⟨arr, ty, q1, q2, q3⟩, _⟩ := hA.ptr _ cs h2
    exact ⟨⟨arr, ty, q1, seeL_rel q2 q3⟩, .inl ⟨⟨cs, h2⟩, rfl⟩⟩
   ·rw [Nat.zero_add] at h1; subst h1
    exact Ow.top ((row h2).keep fun k hk => ⟨.inr ⟨i, l, e, xs, rfl, h2, hk⟩, rfl⟩)
  ·rcases hk with ⟨⟨cs, h1⟩, rfl⟩ | ⟨i, l, e, xs, rfl, h1, hk⟩
   ·obtain ⟨_, _, h2⟩ := hA.ptr _ cs h1
    exact ⟨.inr h2, (hΦ _ h2).1, fun hIk => (hI _ hIk).2 h2⟩
   ·have h2 := hA.wr i l k hk
    exact ⟨.inr h2, (hΦ _ h2).1, fun hIk => (hI _ hIk).2 h2⟩
  ·rcases hk with ⟨⟨cs, h1⟩, rfl⟩ | ⟨i1, l, e, xs, rfl, h1, hk⟩
   ·rcases hk' with ⟨⟨cs', h1'⟩, h2⟩ | ⟨i2, l2, e2, xs2, rfl, h1', hk'⟩
    ·exact hij (hA.inj _ _ cs cs' h1 h1' h2)
    ·exact hA.wg i cs h1 i2 l2 hk'
   ·rcases hk' with ⟨⟨cs', h1'⟩, rfl⟩ | ⟨i2, l2, e2, xs2, rfl, h1', hk'⟩
    ·exact hA.wg j cs' h1' i1 l hk
    ·obtain ⟨rfl, rfl⟩ := hA.wd _ _ _ _ _ hk hk'
     exact hij rfl
 have hvl : vals.size = ps.length := hA.len
 have seeR : ∀ {c : Cell E.T} {F0 : Nat → Prop} {u : Value} {x : A1 E}, (∀ e xs, c ≠ .wr e xs) → CellR E w I F0 c u → A1r E G w (inM b 0 ps) (n0 ps) (seeC c) u := fun {c F0 u x} hn hc => by
  cases c with
  | wr e xs => exact (hn e xs rfl).elim
  | s v => exact seeC_rel (c := .s v) hc
  | sl e xs => exact seeC_rel (c := .sl e xs) hc
 have hT : Tr E G (inT b 0 ps ++ List.replicate (fn.ntmps - ps.length) (.tup [])) (inM b 0 ps) (n0 ps) { tmps := vals ++ Array.replicate (fn.ntmps - vals.size) undef, defers := [] } w := by
  refine ⟨rfl, by simp [inT_length, hvl], fun t x hx => ?_⟩
  by_cases ht : t < ps.length
  ·rw [List.getElem?_append_left (by rw [inT_length]; exact ht), inT_get, List.getElem?_eq_getElem ht] at hx
   simp only [Option.map_some, Option.some.injEq, Nat.zero_add] at hx
   subst hx
   have hv : (vals ++ Array.replicate (fn.ntmps - vals.size) undef).getD t undef = vals.getD t undef := by
    rw [Array.getD_eq_getD_getElem?, Array.getElem?_append_left (by omega), ← Array.getD_eq_getD_getElem?]
   rw [hv]
   have hpt : ps[t]? = some ps[t] := List.getElem?_eq_getElem ht
   generalize ps[t] = p at hpt
   cases p with
   | v p =>
    cases p with
    | c c =>
     have hc := hA.c t c hpt
     by_cases hw : ∃ e xs, c = .wr e xs
     ·obtain ⟨e, xs, rfl⟩ := hw
      have hwr : WrAt ps t 0 e xs := ⟨_, hpt, rfl⟩
      exact ⟨(hwid hwr).1, hc.one, fun _ _ _ _ => (hhd hpt (by omega)).symm⟩
     ·have hn : ∀ e xs, c ≠ .wr e xs := fun e xs he => hw ⟨e, xs, he⟩
      have : inA b t (.v (.c c)) = .c (seeC c) := by cases c <;> first | rfl | exact (hn _ _ rfl).elim
      rw [this]
      exact seeR (x := .junk) hn hc
    | ptr cs =>
     obtain ⟨h1, _, _⟩ := hA.ptr t cs hpt
     exact ⟨Nat.lt_of_lt_of_le ht hn0, ⟨_, h1⟩, fun _ _ => h1⟩
    | ro e x => exact hA.ro t e x hpt
    | fn f xs => exact hA.fn t f xs hpt
   | g cs =>
    obtain ⟨arr, h1, h2, h3⟩ := hA.gg t cs hpt
    refine ⟨arr, h1, ?_, fun l x hl => ?_⟩
    ·rw [h2]
     have : ∀ (cs : List (Cell E.T)) (i : Nat), (inL i cs).length = cs.length := by
      intro cs
      induction cs with
      | nil => intro i; rfl
      | cons c cs ih => intro i; cases c <;> simp [inL, ih]
     rw [this]
    ·rw [inL_get] at hl
     obtain ⟨c, hc, rfl⟩ := Option.map_eq_some_iff.1 hl
     have hcr := h3 l c hc
     by_cases hw : ∃ e xs, c = .wr e xs
     ·obtain ⟨e, xs, rfl⟩ := hw
      have hwr : WrAt ps t l e xs := ⟨_, hpt, hc⟩
      have hwl : wid b t 0 + l = wid b t l := by simp only [wid]; omega
      refine ⟨?_, hcr.one⟩
      simp only [hwl]
      exact ⟨(hwid hwr).1, hcr.one, fun _ _ _ _ => by
       have := hhd hpt (hwr.lt hsm).2
       show arr.getD l undef = hd (wid b t l)
       rw [this]; simp only [cellV, h1]⟩
     ·have hn : ∀ e xs, c ≠ .wr e xs := fun e xs he => hw ⟨e, xs, he⟩
      refine ⟨?_, hcr.one⟩
      have := seeR (x := .junk) hn hcr
      cases c with
      | wr e xs => exact (hn e xs rfl).elim
      | s v => exact this
      | sl e xs => exact this
  ·rw [List.getElem?_append_right (by rw [inT_length]; omega)] at hx
   have hx' := List.mem_of_getElem? hx
   rw [List.mem_replicate] at hx'
   rw [hx'.2]
   have : (vals ++ Array.replicate (fn.ntmps - vals.size) undef).getD t undef = undef := by
    rw [Array.getD_eq_getD_getElem?, Array.getElem?_append_right (by omega), Array.getElem?_replicate]
    split <;> rfl
   rw [this]
   exact undef_rel
 refine calls_of_wp hf hb (evC_sound (S := ⟨_, _, _⟩) hE hC hz c hH h hM hT fun e S' G' a' w' hk hM' hT' => ?_)
 have fin_ : fin rs ps S' = some res → a'.defers = [] ∧ ∃ v, (results fn a'.tmps).run P w' = .ok v w' ∧ ∃ v' I' fp F', Ending.returned v = .returned v' ∧ Post E w w' I Φ g F ps vals res v' I' fp F' := fun hk => by
  refine ⟨hT'.df, ?_⟩
  unfold fin at hk
  split at hk
  ·rename_i as has
   obtain ⟨vs, r1, r2, r3⟩ := results_run (P := P) hE hrs hM' hT' has
   obtain ⟨q, m2, fp, h2, hM2, hs2, hl2, hq, hgone, hdis⟩ := outVs_sound as (fun j => vs.getD j undef) hM' r3 hk
   split at h2
   ·rename_i us hus
    cases h2
    obtain ⟨b1, b2, b3, b4⟩ := backM_sound hM2 ps 0 hus
    have hbk : ∀ (j : Nat) (cs : List (Cell E.T)), ps[j]? = some (.v (.ptr cs)) → ∃ bs, look m2 j = some (.box bs) ∧ G'.bk j = g j ∧ G'.fp j (g j) := fun j cs hj => by
     obtain ⟨bs, e1⟩ := b2 j cs hj
     rw [Nat.zero_add] at e1
     have e2 : G'.bk j = g j := hM2.an j bs (Nat.lt_of_lt_of_le (List.getElem?_eq_some_iff.1 hj).1 hn0) e1
     obtain ⟨_, e3⟩ := hM2.bl j _ e1
     exact ⟨bs, e1, e2, by rw [← e2]; exact e3⟩
    have hnΦ : ∀ k, G'.I k → Φ k → ∃ j l, F j l k := fun k hk hp => by
     rcases (hΦ k hp).2 with ⟨j, cs, hj, rfl⟩ | ⟨j, l, e, xs, _, hF⟩
     ·obtain ⟨bs, e1, _, e3⟩ := hbk j cs hj
      exact ((hM2.lo j _ e1 _ e3).2.2 hk).elim
     ·exact ⟨j, l, hF⟩
    let F' : Nat → Nat → Nat → Prop := fun j l k => (∃ e xs, WrAt ps j l e xs) ∧ (∃ e' xs', look m2 (wid b j l) = some (.row true e' xs')) ∧ G'.fp (wid b j l) k
    have hwr : ∀ {j l e} {xs : List (E.T e)}, WrAt ps j l e xs → ∃ u, us[j]? = some u ∧ ((∃ e' xs', u[l]? = some (.sl e' xs') ∧ look m2 (wid b j l) = some (.row true e' xs')) ∨ (u[l]? = some (.s (.bool false)) ∧ look m2 (wid b j l) = none)) := fun {j l e xs} ⟨p, h1, h2⟩ => by
     obtain ⟨u, g1, g2⟩ := b4 j p l e xs h1 h2
     rw [Nat.zero_add] at g2
     exact ⟨u, g1, g2⟩
    refine ⟨_, r1, _, G'.I, fp, F', rfl, hM'.fr, fun k hk => hM'.ip k hk, fun k hk => ?_, ?_, fun i j k hk => ?_, hdis, b1, fun j cs u hj hu => ?_, fun j p l e xs hj hl => ?_, fun j l k ⟨⟨e, xs, hw⟩, ⟨e', xs', g3⟩, hk⟩ => ?_, fun j l j' l' k ⟨⟨e, xs, hw⟩, ⟨e', xs', g3⟩, hk⟩ ⟨⟨e2, xs2, hw'⟩, ⟨e2', xs2', g3'⟩, hk'⟩ => ?_⟩
    ·rcases hM'.ii k hk with h1 | h1 | h1
     ·exact .inl h1
     ·exact .inr (.inl ⟨h1, hM'.il k hk⟩)
     ·exact .inr (.inr (hnΦ k hk h1))
    ·have hlen : q.length = vs.length := by rw [hl2, r2]
     show RVr E w' G'.I fp (one q) _
     unfold one
     split
     ·rename_i x _
      have hv1 : vs.length = 1 := by rw [← hlen]; rfl
      rw [if_pos hv1]
      exact hq 0 x rfl
     ·rename_i hne
      have hv1 : ¬ vs.length = 1 := fun e => by
       rw [← hlen] at e
       match q, e with
       | [x], _ => exact hne x rfl
      rw [if_neg hv1]
      exact ⟨vs.toArray, rfl, by simp [hlen], fun j x hj => by
       have := hq j x hj
       rwa [show vs.toArray.getD j undef = vs.getD j undef by simp [Array.getD_eq_getD_getElem?, List.getD_eq_getElem?_getD]]⟩
    ·have hg := hgone i j k hk
     obtain ⟨id, b0, g1, g2, g3⟩ := hg
     obtain ⟨l1, l2, l3⟩ := hM'.lo id b0 g1 k g3
     refine ⟨l1.imp_right fun hp => ?_, l2, l3⟩
     rcases (hΦ k hp).2 with ⟨j', cs, hj, rfl⟩ | ⟨j', l, e, xs, _, hF⟩
     ·obtain ⟨bs, e1, _, e3⟩ := hbk j' cs hj
      have e1' := hs2 _ _ e1
      exact (hM'.dj id j' b0 _ g1 e1' (fun e => by subst e; rw [e1] at g2; cases g2) _ g3 e3).elim
     ·exact ⟨j', l, hF⟩
    ·have := b3 j cs u hj hu
     rw [Nat.zero_add] at this
     obtain ⟨_, _, e2, _⟩ := hbk j cs hj
     rwa [e2] at this
    ·have hw : WrAt ps j l e xs := ⟨p, hj, hl⟩
     obtain ⟨u, g1, g2 | g2⟩ := hwr hw
     case inr => exact ⟨u, g1, .inr ⟨_, g2.1⟩⟩
     obtain ⟨e', xs', g2, g3⟩ := g2
     refine ⟨u, g1, .inl ⟨e', xs', g2, ?_⟩⟩
     have htop : Top E w' G'.I true (G'.fp (wid b j l)) (G'.hd (wid b j l)) e' xs' := hM2.bl _ _ g3
     have hM0 : wid b j l < I0.M := by
      show wid b j l < if hasW ps = true then n0 ps else 0
      rw [if_pos (hasW_of hw)]; exact (hwid hw).1
     have hh : G'.hd (wid b j l) = hd (wid b j l) := hM2.ar _ _ _ _ hM0 g3
     rw [hh, hhd hj (hw.lt hsm).2] at htop
     exact (Top.ow htop).keep fun k hk => ⟨⟨⟨e, xs, hw⟩, ⟨e', xs', g3⟩, hk⟩, rfl⟩
    ·obtain ⟨l1, l2, l3⟩ := hM2.lo _ _ g3 k hk
     refine ⟨l1.elim .inr .inl, l2, l3, fun i i' hfp => ?_⟩
     obtain ⟨id, b0, q1, q2, q3⟩ := hgone i i' k hfp
     exact hM'.dj id _ b0 _ q1 (hs2 _ _ g3) (fun e => by subst e; rw [g3] at q2; cases q2) k q3 hk
    ·by_cases hne : wid b j l = wid b j' l'
     ·exact wid_inj hne (hw.lt hsm).2 (hw'.lt hsm).2
     ·exact (hM2.dj _ _ _ _ g3 g3' hne k hk hk').elim
   ·cases h2
  ·cases hk
 cases e with
 | normal => exact fin_ hk
 | ret => exact fin_ hk
 | _ => cases hk
end Go.B
