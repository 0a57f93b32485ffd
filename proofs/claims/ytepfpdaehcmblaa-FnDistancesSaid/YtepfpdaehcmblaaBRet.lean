/- What the reckoner's plain operations say of the program's: what comes back of a call. -/
import Derived.Test.YtepfpdaehcmblaaBCall
namespace Go.B
open Go Go.RowKit
set_option linter.unusedVariables false
set_option linter.unusedSimpArgs false
variable {E : Env} {P : Program}
structure MrH (E : Env) (w0 : World) (Φ : Nat → Prop) (I0 : Ent) (G : Gh) (m : Mem E) (n : Nat) (w : World) (H : Nat → Prop) : Prop where
 fr : Frame Φ w0 w
 lt : ∀ j b, look m j = some b → j < n
 bl : ∀ j b, look m j = some b → ¬ H j → Blkr E G w m n j b
 bx : ∀ j b, look m j = some b → H j → ∃ cs, b = .box cs
 lo : ∀ j b, look m j = some b → ∀ k, G.fp j k → (w0.heap.size ≤ k ∨ Φ k) ∧ k < w.heap.size ∧ ¬ G.I k
 dj : ∀ i j b b', look m i = some b → look m j = some b' → i ≠ j → ∀ k, G.fp i k → ¬ G.fp j k
 il : ∀ k, G.I k → k < w.heap.size
 ii : ∀ k, G.I k → I0.I k ∨ w0.heap.size ≤ k ∨ Φ k
 ip : ∀ k, I0.I k → G.I k
 nn : I0.N ≤ n
 an : ∀ j cs, j < I0.N → look m j = some (.box cs) → G.bk j = I0.g j
 ar : ∀ j d e xs, j < I0.M → look m j = some (.row d e xs) → G.hd j = I0.h j
section
variable {R : Type} {G : Gh} {w w0 w1 w' : World} {m m' m1 m2 : Mem E} {n n' : Nat} {K : AV E → Mem E → Option R} {r : R} {Φ Ψ : Nat → Prop} {I0 : Ent} {ts : List (AV E)} {a : Act} {H : Nat → Prop}
theorem Mr.hole (h : Mr E w0 Φ I0 G m n w) (hf : Frame Ψ w w') (hH : ∀ j, H j → ∃ cs, look m j = some (.box cs)) (hΨ : ∀ k, Ψ k → ∃ j, H j ∧ G.fp j k) : MrH E w0 Φ I0 G m n w' H := by
 have hΨ' : ∀ k, Ψ k → (w0.heap.size ≤ k ∨ Φ k) ∧ ¬ G.I k := fun k hk => by
  obtain ⟨j, hj, hfp⟩ := hΨ k hk
  obtain ⟨cs, hcs⟩ := hH j hj
  exact ⟨(h.lo j _ hcs k hfp).1, (h.lo j _ hcs k hfp).2.2⟩
 have hi : ∀ k, G.I k → G.I k ∧ w'.heap[k]? = w.heap[k]? := fun k hk => ⟨hk, hf.block k (h.il k hk) fun hp => (hΨ' k hp).2 hk⟩
 refine ⟨h.fr.step hf fun k hk => (hΨ' k hk).1, h.lt, fun j b hb hj => ?_, fun j b hb hj => ?_, fun j b hb k hk => ⟨(h.lo j b hb k hk).1, Nat.lt_of_lt_of_le (h.lo j b hb k hk).2.1 hf.size, (h.lo j b hb k hk).2.2⟩, h.dj, fun k hk => Nat.lt_of_lt_of_le (h.il k hk) hf.size, h.ii, h.ip, h.nn, h.an, h.ar⟩
 ·have hb' := h.bl j b hb
  have hk' : ∀ k, G.fp j k → w'.heap[k]? = w.heap[k]? := fun k hk => hf.block k (h.lo j b hb k hk).2.1 fun hp => by
   obtain ⟨i, hi, hfp⟩ := hΨ k hp
   obtain ⟨cs, hcs⟩ := hH i hi
   exact h.dj j i b _ hb hcs (fun e => hj (e ▸ hi)) k hk hfp
  cases b with
  | box cs =>
   obtain ⟨⟨arr, ty, h1, h2⟩, h3⟩ := hb'
   exact ⟨⟨arr, ty, (hk' _ h3).trans h1, h2.keep (Mle.refl _ _ _) (Nat.le_refl _) hi⟩, h3⟩
  | row d e xs => exact hb'.keep hi fun k hk => ⟨hk, hk' k hk⟩
  | rowV e xs => exact ⟨hb'.1.keep hi fun k hk => ⟨hk, hk' k hk⟩, hb'.2.keep hb'.1 hk'⟩
 ·obtain ⟨cs, hcs⟩ := hH j hj
  rw [hcs] at hb; cases hb; exact ⟨cs, rfl⟩
theorem MrH.fill (h : MrH E w0 Φ I0 G m n w H) {id : Nat} {cs0 cs : List (A1 E)} (hl : look m id = some (.box cs0)) (hfp : G.fp id (G.bk id)) {arr : Array Value} {ty : TypeId} (hg : w.heap[G.bk id]? = some (.cells arr ty (0, 0)))
  (hc : A1l E G w (setm m id (.box cs)) n cs arr) : MrH E w0 Φ I0 G (setm m id (.box cs)) n w (fun j => H j ∧ j ≠ id) ∧ Mle G m n G (setm m id (.box cs)) := by
 have hm : Mle G m n G (setm m id (.box cs)) := fun j hj => by
  refine ⟨fun d e xs hx => ?_, fun cs' hx => ?_, fun e xs hx => ?_⟩
  ·rw [look_set] at hx; split at hx
   ·cases hx
   ·exact ⟨rfl, d, xs, hx, rfl⟩
  ·rw [look_set] at hx; split at hx
   ·rename_i e; subst e; exact ⟨rfl, cs0, hl⟩
   ·exact ⟨rfl, cs', hx⟩
  ·rw [look_set] at hx; split at hx
   ·cases hx
   ·exact ⟨rfl, rfl, xs, hx, rfl, fun i j e' ys' _ h => ⟨ys', h⟩⟩
 have hlk : ∀ j b, look (setm m id (.box cs)) j = some b → ∃ b', look m j = some b' ∧ (j ≠ id → b' = b) := fun j b hb => by
  rw [look_set] at hb; split at hb
  ·rename_i e; subst e; exact ⟨_, hl, fun h => absurd rfl h⟩
  ·exact ⟨b, hb, fun _ => rfl⟩
 refine ⟨⟨h.fr, fun j b hb => ?_, fun j b hb hj => ?_, fun j b hb hj => ?_, fun j b hb k hk => ?_, fun i j b b' hb hb' hij k hk => ?_, h.il, h.ii, h.ip, h.nn, fun j cs' hj hc' => ?_, fun j d e xs hj hc' => ?_⟩, hm⟩
 ·obtain ⟨b', h1, _⟩ := hlk j b hb; exact h.lt j b' h1
 ·by_cases hji : j = id
  ·subst hji
   rw [look_set, if_pos rfl] at hb
   cases hb
   exact ⟨⟨arr, ty, hg, hc⟩, hfp⟩
  ·obtain ⟨b', h1, h2⟩ := hlk j b hb
   obtain rfl := h2 hji
   have hb' := h.bl j b' h1 (fun hH => hj ⟨hH, hji⟩)
   cases b' with
   | box cs =>
    obtain ⟨⟨arr, ty, h1, h2⟩, h3⟩ := hb'
    exact ⟨⟨arr, ty, h1, h2.keep hm (Nat.le_refl _) fun k hk => ⟨hk, rfl⟩⟩, h3⟩
   | row d e xs => exact hb'
   | rowV e xs => exact hb'
 ·obtain ⟨b', h1, h2⟩ := hlk j b hb
  obtain rfl := h2 hj.2
  exact h.bx j b' h1 hj.1
 ·obtain ⟨b', h1, _⟩ := hlk j b hb; exact h.lo j b' h1 k hk
 ·obtain ⟨c, h1, _⟩ := hlk i b hb
  obtain ⟨c', h2, _⟩ := hlk j b' hb'
  exact h.dj i j c c' h1 h2 hij k hk
 ·rw [look_set] at hc'; split at hc'
  ·rename_i e; subst e; exact h.an _ cs0 hj hl
  ·exact h.an j cs' hj hc'
 ·rw [look_set] at hc'; split at hc'
  ·cases hc'
  ·exact h.ar j d e xs hj hc'
theorem MrH.full (h : MrH E w0 Φ I0 G m n w H) (hH : ∀ j, ¬ H j) : Mr E w0 Φ I0 G m n w := ⟨h.fr, h.lt, fun j b hb => h.bl j b hb (hH j), h.lo, h.dj, h.il, h.ii, h.ip, h.nn, h.an, h.ar⟩
theorem cells_rel {cs : List (Cell E.T)} {as : List (A1 E)} (h : cellsA true cs = some as) {g : Nat} {arr : Array Value} (ha : arr.size = cs.length) (hr : ∀ (j : Nat) (c : Cell E.T), cs[j]? = some c → Rd E w G.I (arr.getD j undef) c) : A1l E G w m n as arr := by
 obtain ⟨hl, hg⟩ := cellsA_get h
 refine ⟨by rw [ha, hl], fun j a hj => ?_⟩
 obtain ⟨q, hq, hc⟩ := hg j a hj
 have := hr j q hq
 exact ⟨cellA_rd hc this, this.one⟩
theorem takeBack_sound : ∀ {as : List (AV E)} {us : List (List (Cell E.T))} {k : Mp E} {m : Mem E} {H : Nat → Prop}, MrH E w0 Φ I0 G m n w H → (∀ j, H j → ∃ l : Nat, as[l]? = some (.v (.c (.bp j 0)))) →
  (∀ (l id : Nat) (u : List (Cell E.T)), as[l]? = some (.v (.c (.bp id 0))) → us[l]? = some u → H id ∧ (∃ cs, look m id = some (.box cs)) ∧ G.fp id (G.bk id) ∧ BoxR E w G.I (G.bk id) u) →
  (∀ (l l' id : Nat), as[l]? = some (.v (.c (.bp id 0))) → as[l']? = some (.v (.c (.bp id 0))) → l = l') →
  (takeBack as us k).run m K = some r → ∃ m', k.run m' K = some r ∧ Mr E w0 Φ I0 G m' n w ∧ Mle G m n G m'
 | [], us, k, m, H, hM, hH, hu, hd, h => by
  cases us with
  | nil =>
   simp only [takeBack] at h
   exact ⟨m, h, hM.full fun j hj => by obtain ⟨l, hl⟩ := hH j hj; simp at hl, Mle.refl _ _ _⟩
  | cons => simp only [takeBack] at h; cases h
 | x :: as, us, k, m, H, hM, hH, hu, hd, h => by
  cases us with
  | nil =>
   unfold takeBack at h
   split at h
   ·rename_i h1 h2; cases h2
   ·rename_i h1 h2; cases h2
   ·rename_i h1 h2; cases h1
   ·cases h
  | cons u us =>
   have skip : (∀ id, x ≠ .v (.c (.bp id 0))) → (takeBack as us k).run m K = some r → ∃ m', k.run m' K = some r ∧ Mr E w0 Φ I0 G m' n w ∧ Mle G m n G m' := fun hx h' => by
    refine takeBack_sound hM (fun j hj => ?_) (fun l id u' h1 h2 => hu (l + 1) id u' (by simpa using h1) (by simpa using h2)) (fun l l' id h1 h2 => by have := hd (l + 1) (l' + 1) id (by simpa using h1) (by simpa using h2); omega) h'
    obtain ⟨l, hl⟩ := hH j hj
    cases l with
    | zero => simp at hl; exact absurd hl (hx j)
    | succ l => exact ⟨l, by simpa using hl⟩
   by_cases hx : ∃ id, x = .v (.c (.bp id 0))
   ·obtain ⟨id, rfl⟩ := hx
    simp only [takeBack] at h
    split at h
    ·rename_i cs hcs
     have h' := run_put h
     obtain ⟨h1, ⟨cs0, h2⟩, h3, ⟨arr, ty, h4, h5, h6⟩⟩ := hu 0 id u rfl rfl
     obtain ⟨g1, g2⟩ := hM.fill h2 h3 h4 (cells_rel (g := 0) hcs h5 h6)
     have hH' : ∀ j, (H j ∧ j ≠ id) → ∃ l : Nat, as[l]? = some (.v (.c (.bp j 0))) := fun j hj => by
      obtain ⟨l, hl⟩ := hH j hj.1
      cases l with
      | zero => simp at hl; exact absurd hl.symm hj.2
      | succ l => exact ⟨l, by simpa using hl⟩
     have hu' : ∀ (l id' : Nat) (u' : List (Cell E.T)), as[l]? = some (.v (.c (.bp id' 0))) → us[l]? = some u' → (H id' ∧ id' ≠ id) ∧ (∃ c, look (setm m id (.box cs)) id' = some (.box c)) ∧ G.fp id' (G.bk id') ∧ BoxR E w G.I (G.bk id') u' := fun l id' u' p1 p2 => by
      obtain ⟨q1, ⟨cs', q2⟩, q3, q4⟩ := hu (l + 1) id' u' (by simpa using p1) (by simpa using p2)
      have hne : id' ≠ id := fun e => by
       subst e
       have := hd 0 (l + 1) id' rfl (by simpa using p1)
       omega
      exact ⟨⟨q1, hne⟩, ⟨cs', by rw [look_set, if_neg (Ne.symm hne)]; exact q2⟩, q3, q4⟩
     obtain ⟨m', f1, f2, f3⟩ := takeBack_sound g1 hH' hu' (fun l l' id h1 h2 => by have := hd (l + 1) (l' + 1) id (by simpa using h1) (by simpa using h2); omega) h'
     exact ⟨m', f1, f2, g2.trans f3⟩
    ·cases h
   ·have hx' : ∀ id, x ≠ .v (.c (.bp id 0)) := fun id e => hx ⟨id, e⟩
    refine skip hx' ?_
    unfold takeBack at h
    split at h
    ·rename_i id _ _ _ heq1 heq2
     injection heq1 with e1 e2
     exact absurd e1 (hx' _)
    ·rename_i heq1 heq2
     injection heq1 with e1 e2
     injection heq2 with e3 e4
     subst e2; subst e4
     exact h
    ·rename_i heq1 _; cases heq1
    ·cases h
theorem plainC_get : ∀ {cs : List (Cell E.T)} {j : Nat} {c : Cell E.T}, plainC cs = true → cs[j]? = some c → ∃ v, c = .s v
 | [], j, c, _, h => by simp at h
 | .s v :: cs, 0, c, _, h => by simp at h; exact ⟨v, h.symm⟩
 | .s v :: cs, j + 1, c, hp, h => plainC_get (cs := cs) hp (by simpa using h)
 | .sl e xs :: cs, j, c, hp, h => by simp [plainC] at hp
 | .wr e xs :: cs, j, c, hp, h => by simp [plainC] at hp
theorem getR1_sound (hM : Mr E w0 Φ I0 G m n w) {I' fp : Nat → Prop} {x : R1 E} {u : Value} (hr : R1r E w I' fp x u) (hI : freshR x = true ∨ ∀ k, I' k → G.I k) (hfp : ∀ k, fp k → Free E w0 Φ G m w k) {k : A1 E → Nat → Mp E}
  (h : (getR1 n x k).run m K = some r) : ∃ b n' m' G', (k b n').run m' K = some r ∧ n ≤ n' ∧ Mr E w0 Φ I0 G' m' n' w ∧ Mle G m n G' m' ∧ (∀ k, G.I k → G'.I k) ∧ A1r E G' w m' n' b u ∧ u.oneCell' = true ∧ ∀ k, Free E w0 Φ G m w k → ¬ fp k → Free E w0 Φ G' m' w k := by
 have free : ∀ (b : Blk E) (v : Value) (bk : Nat) (k : Nat), Free E w0 Φ G m w k → ¬ fp k → Free E w0 Φ (G.upd n v bk fp) (setm m n b) w k := fun b v bk k hk hn => by
  refine ⟨hk.1, hk.2.1, hk.2.2.1, fun j c hj hk' => ?_⟩
  rw [look_set] at hj
  split at hj
  ·rename_i e; subst e
   simp only [Gh.upd, if_true] at hk'
   exact hn hk'
  ·rename_i hne
   simp only [Gh.upd, if_neg (Ne.symm hne)] at hk'
   exact hk.2.2.2 j c hj hk'
 cases x with
 | s v => simp only [getR1] at h; obtain ⟨rfl, h1⟩ := hr; exact ⟨_, n, m, G, h, Nat.le_refl _, hM, Mle.refl _ _ _, fun _ h => h, ⟨rfl, h1⟩, h1, fun k hk _ => hk⟩
 | imm e xs =>
  simp only [getR1] at h
  have hI' : ∀ k, I' k → G.I k := hI.resolve_left (by simp [freshR])
  have : Rd E w G.I u (.sl e xs) := Rd.keep (c := .sl e xs) hr fun k hk => ⟨hI' k hk, rfl⟩
  exact ⟨_, n, m, G, h, Nat.le_refl _, hM, Mle.refl _ _ _, fun _ h => h, this, this.one, fun k hk _ => hk⟩
 | own d e xs =>
  have hm := Mle.new (G := G) (m := m) (n := n) (.row d e xs) u 0 fp
  have htop : Top E w G.I d fp u e xs := by
   rcases hI with hI | hI
   ·have hd : d = true := hI
    subst hd
    exact Ow.top (Top.ow hr)
   ·exact Top.keep hr (fun k hk => ⟨hI k hk, rfl⟩) fun k hk => ⟨hk, rfl⟩
  have hM' := hM.put (id := n) (n' := n + 1) (b := .row d e xs) (v := u) (bk := 0) (F := fp) (Nat.lt_succ_self n) (Nat.le_succ n) (Frame.refl (fun _ => False) w) (fun _ h => h.elim) hm (by simpa [Blkr, Gh.upd] using htop)
   (fun k hk => ⟨(hfp k hk).1, (hfp k hk).2.1, (hfp k hk).2.2.1, fun j b hj _ => (hfp k hk).2.2.2 j b hj⟩)
  cases d with
  | true =>
   simp only [getR1] at h
   have h' := run_put h
   exact ⟨_, _, _, _, h', Nat.le_succ n, hM', hm, fun _ h => h, ⟨Nat.lt_succ_self n, htop.one, fun d' e' xs' _ => by simp [Gh.upd]⟩, htop.one, free _ _ _⟩
  | false =>
   simp only [getR1] at h
   have h' := run_del (run_put h)
   have hln : look (setm m n (Blk.row false e xs)) n = some (.row false e xs) := by rw [look_set, if_pos rfl]
   have hfn : (G.upd n u 0 fp).fp n = fp := by simp [Gh.upd]
   have hMf := hM'.freeze hln
   refine ⟨_, _, _, _, h', Nat.le_succ n, hMf, hm.trans ((Sub.del (setm m n (Blk.row false e xs)) n).mle (G := G.upd n u 0 fp) (n := n)), fun k hk => .inl hk, ?_, htop.one, fun k hk hn => ⟨hk.1, hk.2.1, fun hI' => hI'.elim hk.2.2.1 fun h3 => hn (by rw [hfn] at h3; exact h3), fun j c hj hk' => ?_⟩⟩
   ·exact htop.rd (fun k hk => .inl hk) fun k hk => .inr (by rw [hfn]; exact hk)
   ·rw [look_del] at hj
    split at hj
    ·cases hj
    ·rename_i hne
     exact (free (.row false e xs) u 0 k hk hn).2.2.2 j c hj hk'
 | ptr cs =>
  simp only [getR1] at h
  split at h
  ·rename_i as has
   have h' := run_put h
   obtain ⟨g, rfl, ⟨arr, ty, h1, h2, h3⟩, h4⟩ := hr
   have hm := Mle.new (G := G) (m := m) (n := n) (.box as) (.bool false) g fp
   have hrd : ∀ (j : Nat) (c : Cell E.T), cs[j]? = some c → Rd E w G.I (arr.getD j undef) c := fun j c hj => by
    rcases hI with hI | hI
    ·obtain ⟨v, rfl⟩ := plainC_get (cs := cs) hI hj
     obtain ⟨e1, e2⟩ := (h3 j _ hj).to_s
     rw [e1]; exact .s e2
    ·exact (h3 j c hj).more hI
   have hcr : A1l E G w m n as arr := cells_rel (g := 0) has h2 hrd
   have hM' := hM.put (id := n) (n' := n + 1) (b := .box as) (v := .bool false) (bk := g) (F := fp) (Nat.lt_succ_self n) (Nat.le_succ n) (Frame.refl (fun _ => False) w) (fun _ h => h.elim) hm
    ⟨⟨arr, ty, by simpa [Gh.upd] using h1, hcr.keep hm (Nat.le_succ n) fun k hk => ⟨hk, rfl⟩⟩, by simpa [Gh.upd] using h4⟩
    (fun k hk => ⟨(hfp k hk).1, (hfp k hk).2.1, (hfp k hk).2.2.1, fun j b hj _ => (hfp k hk).2.2.2 j b hj⟩)
   exact ⟨_, _, _, _, h', Nat.le_succ n, hM', hm, fun _ h => h, ⟨Nat.lt_succ_self n, ⟨_, rfl⟩, fun cs' _ => by simp [Gh.upd]⟩, rfl, free _ _ _⟩
  ·cases h
end
end Go.B
