/- What the reckoner's plain operations say of the program's: append, all its kinds. -/
import Derived.Test.YtepfpdaehcmblaaBOpsZ
namespace Go.B
open Go Go.RowKit
set_option linter.unusedVariables false
set_option linter.unusedSimpArgs false
variable {E : Env} {P : Program}
section
variable {R : Type} {G : Gh} {w w0 w1 : World} {m m' m1 m2 : Mem E} {n : Nat} {K : AV E → Mem E → Option R} {r : R} {Φ Ψ : Nat → Prop} {I0 : Ent} {ts : List (AV E)} {a : Act}
theorem flat_cell (hE : EnvOK E P) {e : TypeId} {i : TI} (hi : E.info e = some i) (hf : flat i = true) (x : E.T e) (y : Nat) : ∃ v, cellAt E e x y = .s v := by
 cases h : (E.cells e x)[y]? with
 | none => exact ⟨undef, by simp [cellAt, List.getD_eq_getElem?_getD, h]⟩
 | some c =>
  obtain ⟨v, rfl⟩ := hE.flatOK e i x y c hi hf h
  exact ⟨v, by simp [cellAt, List.getD_eq_getElem?_getD, h]⟩
theorem give_of_s {I : Nat → Prop} {F : Nat → Prop} {d d' : Bool} {u v : Value} (h : In E w I d F u (.s v)) : Give E w I (fun _ => False) d' u (.s v) := by
 unfold In at h
 split at h
 ·cases h with | s h => exact give_s h
 ·obtain ⟨rfl, h⟩ := h.to_s
  exact give_s h
theorem free_of (hM : Mr E w0 Φ I0 G m n w) {id : Nat} {b : Blk E} (hl : look m id = some b) {k : Nat} (hk : G.fp id k) : Free E w0 Φ G (delm m id) w k :=
 ⟨(hM.lo id b hl k hk).1, (hM.lo id b hl k hk).2.1, (hM.lo id b hl k hk).2.2, fun j c hj hk' => by
  rw [look_del] at hj
  split at hj
  ·cases hj
  ·rename_i hne; exact hM.dj id j b c hl hj hne k hk hk'⟩
theorem dst_nil (e : TypeId) : Dst E w0 Φ G m w e (.slice none 0 0) [] true [] (fun _ _ _ => False) :=
 ⟨World.ownsRowG_nil w 0 e (E.sz e), fun k hk => by simp [Value.ownBlock] at hk, fun _ _ _ _ _ h => h.elim, fun _ _ _ _ _ _ _ _ _ h => h.elim, fun x y hx => by simp at hx⟩
theorem give_of_in {I F : Nat → Prop} {d : Bool} {u : Value} {c : Cell E.T} (h : In E w I d F u c) : Give E w I F d u c := by
 unfold In at h
 split at h
 ·exact ⟨h.rd fun k hk => .inr hk, fun _ => h⟩
 ·exact ⟨h.keep fun k hk => ⟨.inl hk, rfl⟩, fun hd => absurd hd ‹_›⟩
theorem dst_row (hM : Mr E w0 Φ I0 G m n w) {id : Nat} {d : Bool} {e : TypeId} {xs : List (E.T e)} (hl : look m id = some (.row d e xs)) :
  ∃ inner F, Dst E w0 Φ G (delm m id) w e (G.hd id) xs d inner F ∧ ∀ x y k, x < xs.length → y < E.sz e → F x y k → G.fp id k := by
 obtain ⟨inner, F, ho, hb, hf, hd, hin⟩ := hM.bl id _ hl
 exact ⟨inner, F, ⟨ho, fun k hk => free_of hM hl (hb k hk), fun x y k hx hy hk => ⟨free_of hM hl (hf x y k hx hy hk).1, (hf x y k hx hy hk).2⟩, hd, fun x y hx hy => give_of_in (hin x y hx hy)⟩, fun x y k hx hy hk => (hf x y k hx hy hk).1⟩
structure Lies (w : World) (u : Value) (k sz : Nat) (news : List Value) : Prop where
 ex : ∃ A c, u = .slice A k c ∧ (0 < k → A.isSome = true) ∧ ∀ q x, news[q]? = some x → w.cell? ((A.getD default).add q) = some x
 len : news.length = k * sz
 one : ∀ x ∈ news, x.oneCell' = true
theorem div_mod_pair {q k s : Nat} (h : q < k * s) : q / s < k ∧ q % s < s ∧ q / s * s + q % s = q := by
 have hs : 0 < s := Nat.pos_of_ne_zero fun e => by subst e; simp at h
 exact ⟨(Nat.div_lt_iff_lt_mul hs).2 h, Nat.mod_lt _ hs, by rw [Nat.mul_comm]; exact Nat.div_add_mod q s⟩
theorem imm_lies {u : Value} {e : TypeId} {ys : List (E.T e)} (h : Rd E w G.I u (.sl e ys)) :
  ∃ news, Lies w u ys.length (E.sz e) news ∧ ∀ x y, x < ys.length → y < E.sz e → Rd E w G.I (news.getD (x * E.sz e + y) undef) (cellAt E e (ys.getD x (E.dflt e)) y) := by
 cases h with
 | @sl A nn cap _ _ val hn hc hm ha hw hr =>
  subst hn
  let news := (List.range (ys.length * E.sz e)).map fun q => val (q / E.sz e) (q % E.sz e)
  have hget : ∀ q x, news[q]? = some x → q < ys.length * E.sz e ∧ x = val (q / E.sz e) (q % E.sz e) := fun q x hq => by
   simp only [news, List.getElem?_map] at hq
   obtain ⟨q', h1, h2⟩ := Option.map_eq_some_iff.1 hq
   have := (List.getElem?_eq_some_iff.1 h1)
   obtain ⟨h3, h4⟩ := this
   simp at h3 h4
   subst h4
   exact ⟨h3, h2.symm⟩
  refine ⟨news, ⟨⟨A, cap, rfl, ha, fun q x hq => ?_⟩, by simp [news], fun x hx => ?_⟩, fun x y hx hy => ?_⟩
  ·obtain ⟨h1, rfl⟩ := hget q x hq
   obtain ⟨p1, p2, p3⟩ := div_mod_pair h1
   have := (hw _ _ p1 p2).2
   rw [p3] at this
   exact this
  ·obtain ⟨q, hq⟩ := List.getElem?_of_mem hx
   obtain ⟨h1, rfl⟩ := hget q x hq
   obtain ⟨p1, p2, _⟩ := div_mod_pair h1
   exact (hr _ _ p1 p2).one
  ·have hlt := lt_of_pair hx hy
   have hs : 0 < E.sz e := by omega
   have e1 : (x * E.sz e + y) / E.sz e = x := by rw [Nat.mul_comm, Nat.mul_add_div hs, Nat.div_eq_of_lt hy, Nat.add_zero]
   have e2 : news.getD (x * E.sz e + y) undef = val x y := by
    simp only [news, List.getD_eq_getElem?_getD, List.getElem?_map]
    rw [List.getElem?_range hlt]
    simp [e1, mod_pair hy]
   rw [e2]
   exact hr x y hx hy
theorem row_lies (hM : Mr E w0 Φ I0 G m n w) {id : Nat} {d : Bool} {e : TypeId} {ys : List (E.T e)} (hl : look m id = some (.row d e ys)) :
  ∃ (news : List Value) (F : Nat → Nat → Nat → Prop), Lies w (G.hd id) ys.length (E.sz e) news ∧ (∀ x y, x < ys.length → y < E.sz e → In E w G.I d (F x y) (news.getD (x * E.sz e + y) undef) (cellAt E e (ys.getD x (E.dflt e)) y)) ∧
   (∀ x y k, x < ys.length → y < E.sz e → F x y k → G.fp id k ∧ (G.hd id).ownBlock ≠ some k) ∧ (∀ x y x' y' k, x < ys.length → y < E.sz e → x' < ys.length → y' < E.sz e → F x y k → F x' y' k → x = x' ∧ y = y') := by
 obtain ⟨inner, F, ho, hb, hf, hd, hin⟩ := hM.bl id _ hl
 obtain ⟨A, cap, hv, hle, hmx, hA, hA2⟩ := ownsG_form ho
 refine ⟨inner, F, ⟨⟨A, cap, hv, hA, fun q x hq => ?_⟩, ho.1, fun x hx => ?_⟩, hin, hf, hd⟩
 ·have hlt : q < ys.length * E.sz e := by rw [← ho.1]; exact (List.getElem?_eq_some_iff.1 hq).1
  obtain ⟨g, cap', hv', _, hc⟩ := ownsG_cell ho q hlt
  rw [hv] at hv'
  cases hv'
  have : inner.getD q undef = x := by simp [List.getD_eq_getElem?_getD, hq]
  rw [this] at hc
  exact hc
 ·obtain ⟨q, hq⟩ := List.getElem?_of_mem hx
  have hlt : q < ys.length * E.sz e := by rw [← ho.1]; exact (List.getElem?_eq_some_iff.1 hq).1
  obtain ⟨p1, p2, p3⟩ := div_mod_pair hlt
  have := (hin _ _ p1 p2).one
  rw [p3] at this
  have e1 : inner.getD q undef = x := by simp [List.getD_eq_getElem?_getD, hq]
  rwa [e1] at this
theorem win_lies {u : Value} {kk sz lo k : Nat} {news : List Value} (h : Lies w u kk sz news) (hlo : lo + k ≤ kk) (hcap : ∀ A c, u = .slice A kk c → kk ≤ c) : Lies w (winV sz lo k u) k sz ((news.drop (lo * sz)).take (k * sz)) := by
 obtain ⟨⟨A, c, rfl, h2, h3⟩, h4, h5⟩ := h
 have hkk := hcap A c rfl
 refine ⟨⟨if c = lo then A else A.map (·.add (lo * sz)), c - lo, rfl, fun hk => ?_, fun q x hq => ?_⟩, ?_, fun x hx => h5 x (List.mem_of_mem_drop (List.mem_of_mem_take hx))⟩
 ·rw [if_neg (by omega)]
  have := h2 (by omega)
  cases A <;> simp_all
 ·rw [List.getElem?_take] at hq
  split at hq
  ·rename_i hqk
   rw [List.getElem?_drop] at hq
   have hk : 0 < k := Nat.pos_of_ne_zero fun e => by subst e; simp at hqk
   rw [if_neg (by omega)]
   obtain ⟨ad, rfl⟩ := Option.isSome_iff_exists.1 (h2 (by omega))
   have := h3 _ _ hq
   simp only [Option.map_some, Option.getD_some] at this ⊢
   rw [Addr.add_add]; exact this
  ·cases hq
 ·have : (lo + k) * sz ≤ kk * sz := Nat.mul_le_mul_right _ hlo
  rw [Nat.add_mul] at this
  simp only [List.length_take, List.length_drop, h4]
  omega
theorem append_go (hE : EnvOK E P) (hT : Tr E G ts m n a w) {t e : TypeId} {i j : TI} (hi : E.info t = some i) (hd : i.desc = .slice e) (hj : E.info e = some j) (hM2 : Mr E w0 Φ I0 G m2 n w) (hs2 : Sub m m2) {v : Value} {xs ys : List (E.T e)} {d d1 D : Bool} {inner news : List Value} {F0 F1 : Nat → Nat → Nat → Prop}
  (h0 : Dst E w0 Φ G m2 w e v xs d inner F0) {u : Value} (hl : Lies w u ys.length (E.sz e) news) (h1 : Src E w0 Φ G m2 w e v ys d1 news F1) (hx : ∀ x y x' y' k, x < xs.length → y < E.sz e → x' < ys.length → y' < E.sz e → F0 x y k → ¬ F1 x' y' k)
  (hD : D = true → d = true ∧ d1 = true) (hsz : (xs.length + ys.length) * j.bytes ≤ maxN) (h : K (.v (.c (.row n))) (setm m2 n (.row D e (xs ++ ys))) = some r) (ty : TypeId) :
  ∃ v' m' u' w' G', K v' m' = some r ∧ (Builtin.append_ #[t, t] ty #[v, u]).run P w = .ok u' w' ∧ Mr E w0 Φ I0 G' m' (n + wide) w' ∧ Tr E G' ts m' (n + wide) a w' ∧ AVr E G' w' m' (n + wide) v' u' := by
 obtain ⟨⟨A, c, rfl, hA, hn⟩, hlen, h1'⟩ := hl
 obtain ⟨v', w', r1, r2, r3, r4⟩ := append_run (P := P) (w := w) hE hi hd hj h0.own (c := c) hlen hA hn h1' hsz ty
 obtain ⟨G', g1, g2, g3⟩ := append_fin hM2 (hT.keep hs2.mle (Nat.le_refl _) fun k hk => ⟨hk, rfl⟩) h0 h1 hx hD r3 r2 r4
 exact ⟨_, _, _, _, G', h, r1, g1, g2, g3⟩
theorem appendA_sound (hE : EnvOK E P) (hM : Mr E w0 Φ I0 G m n w) (hT : Tr E G ts m n a w) {t t' e : TypeId} {i j i' : TI} (hi : E.info t = some i) (hd : i.desc = .slice e) (hj : E.info e = some j) (hi' : E.info t' = some i')
  {p q : A1 E} {u x : Value} (hp : A1r E G w m n p u) (hq : A1r E G w m n q x) (hty : (t' = t ∧ (∀ s, q ≠ .s (.string s)) ∧ ∀ k l, q ≠ .s (.int k l)) ∨ (i'.desc = .string ∧ ∃ s, q = .s (.string s)) ∨ (∃ k, i'.desc = .int k) ∧ ∃ k l, q = .s (.int k l)) (happ : (appendA n j e p q).run m K = some r) (ty : TypeId) :
  ∃ v' m' u' w' G', K v' m' = some r ∧ (Builtin.append_ #[t, t'] ty #[u, x]).run P w = .ok u' w' ∧ Mr E w0 Φ I0 G' m' (n + wide) w' ∧ Tr E G' ts m' (n + wide) a w' ∧ AVr E G' w' m' (n + wide) v' u' := by
 have fin : ∀ (m1 : Mem E) (xs : List (E.T e)) (d : Bool) (inner : List Value) (F0 : Nat → Nat → Nat → Prop), Mr E w0 Φ I0 G m1 n w → Sub m m1 → Dst E w0 Φ G m1 w e u xs d inner F0 →
   (behind n j e d xs q).run m1 K = some r →
   ∃ v' m' u' w' G', K v' m' = some r ∧ (Builtin.append_ #[t, t'] ty #[u, x]).run P w = .ok u' w' ∧ Mr E w0 Φ I0 G' m' (n + wide) w' ∧ Tr E G' ts m' (n + wide) a w' ∧ AVr E G' w' m' (n + wide) v' u' := by
  intro m1 xs d inner F0 hM1 hs1 h0 h
  have hq1 : A1r E G w m1 n q x := hq.keep hs1.mle (Nat.le_refl _) fun k hk => ⟨hk, rfl⟩
  have slices : (∀ s, q ≠ .s (.string s)) → (∀ k l, q ≠ .s (.int k l)) → t' = t := fun hs hn => by
   rcases hty with ⟨h1, _⟩ | ⟨_, s, h2⟩ | ⟨_, k, l, h2⟩
   ·exact h1
   ·exact absurd h2 (hs s)
   ·exact absurd h2 (hn k l)
  unfold behind at h
  split at h
  ·
   rename_i s
   have hds : i'.desc = .string := by
    rcases hty with ⟨_, h2, _⟩ | ⟨h1, _⟩ | ⟨_, k, l, h2⟩
    ·exact absurd rfl (h2 s)
    ·exact h1
    ·cases h2
   obtain ⟨rfl, _⟩ := hq1
   split at h
   ·rename_i ys hys
    obtain ⟨h1, h⟩ := run_need h
    have h' := run_put h
    obtain ⟨⟨q1, q2, q3⟩, q4, q5⟩ := hE.bytesOK e _ _ j hys hj
    obtain ⟨hu, ⟨ij, hij, hsz, hby, hz⟩, _, _⟩ := hE.info e j hj
    have hut : P.underlying t = some (.slice e) := by rw [← hd]; exact (hE.info t i hi).1
    have hus : P.underlying t' = some .string := by rw [← hds]; exact (hE.info t' i' hi').1
    have hsze : E.sz e = 1 := by rw [hE.szEq hj, q1]
    have hbl : (bytesOf s).length = s.size := by simp [bytesOf]
    have hown := h0.own
    rw [hsze] at hown
    obtain ⟨v', w', r1, r2, r3, _, r5⟩ := Lib.run_append_own_stringG (P := P) w 0 t t' ty e ij hut hus hij (by rw [hz, q3]) (by rw [hsz, q1]) (by rw [hby, q2]) u xs.length inner hown s (by simp only [maxN] at h1; simp only [Go.maxLen]; omega) (by simp only [maxN] at h1; omega) (Nat.zero_le _)
    have hcl : (Lib.strCells s).length = ys.length := by rw [Lib.strCells_length, q4, hbl]
    have hsrc : Src E w0 Φ G m1 w e u ys true (Lib.strCells s) (fun _ _ _ => False) := by
     refine ⟨by rw [hsze, Nat.mul_one]; exact hcl, fun _ _ _ _ _ h => h.elim, fun _ _ _ _ _ _ _ _ _ h => h.elim, fun x y hx hy => ?_⟩
     rw [hsze] at hy
     have hy0 : y = 0 := by omega
     subst hy0
     have e1 := q5 x (by omega)
     have e2 : (Lib.strCells s).getD (x * E.sz e + 0) undef = .int .u8 ((bytesOf s).getD x 0) := by
      have hxl : x < s.data.toList.length := by rw [q4, hbl] at hx; simpa using hx
      rw [hsze]
      simp only [Nat.mul_one, Nat.add_zero, Lib.strCells, bytesOf, List.getD_eq_getElem?_getD, List.getElem?_map, List.getElem?_eq_getElem hxl, Option.map_some, Option.getD_some]
     have e3 : cellAt E e (ys.getD x (E.dflt e)) 0 = .s (.int .u8 ((bytesOf s).getD x 0)) := by simp only [cellAt, e1]; rfl
     rw [e2, e3]
     exact give_s rfl
    have r2' : w'.ownsRowG 0 e (E.sz e) v' (xs.length + ys.length) (inner ++ Lib.strCells s) := by rw [hsze, q4, hbl]; exact r2
    obtain ⟨G', g1, g2, g3⟩ := append_fin (D := d) hM1 (hT.keep hs1.mle (Nat.le_refl _) fun k hk => ⟨hk, rfl⟩) h0 hsrc (fun _ _ _ _ _ _ _ _ _ _ h => h) (fun hd => ⟨hd, rfl⟩) r3 r2' r5
    exact ⟨_, _, _, _, G', h', r1, g1, g2, g3⟩
   ·cases h
  ·
   rename_i kq l
   have hdi : ∃ k, i'.desc = .int k := by
    rcases hty with ⟨_, _, h2⟩ | ⟨_, s, h2⟩ | ⟨h1, _⟩
    ·exact absurd rfl (h2 _ _)
    ·cases h2
    ·exact h1
   obtain ⟨kn, hdi⟩ := hdi
   obtain ⟨rfl, _⟩ := hq1
   split at h
   ·rename_i ys hys
    obtain ⟨hl0, h⟩ := run_need h
    obtain ⟨h1, h⟩ := run_need h
    have h' := run_put h
    obtain ⟨⟨q1, q2, q3⟩, q4, q5⟩ := hE.bytesOK e _ _ j hys hj
    obtain ⟨hu, ⟨ij, hij, hsz, hby, hz⟩, _, _⟩ := hE.info e j hj
    have hut : P.underlying t = some (.slice e) := by rw [← hd]; exact (hE.info t i hi).1
    have hus : P.underlying t' = some (.int kn) := by rw [← hdi]; exact (hE.info t' i' hi').1
    have hsze : E.sz e = 1 := by rw [hE.szEq hj, q1]
    have hyl : ys.length = l.toNat := by rw [q4]; simp
    have hown := h0.own
    rw [hsze] at hown
    obtain ⟨v', w', r1, r2, r3, r5⟩ := run_append_own_zeros (P := P) (w := w) t t' ty e ij kq kn hut hus hij (by rw [hz, q3]) (by rw [hsz, q1]) (by rw [hby, q2]) u xs.length inner hown l.toNat (by rw [hyl] at h1; exact h1)
    rw [Int.toNat_of_nonneg hl0] at r1
    have hsrc : Src E w0 Φ G m1 w e u ys true (List.replicate l.toNat (Value.int .u8 0)) (fun _ _ _ => False) := by
     refine ⟨by rw [hsze, Nat.mul_one, hyl]; simp, fun _ _ _ _ _ h => h.elim, fun _ _ _ _ _ _ _ _ _ h => h.elim, fun x y hx hy => ?_⟩
     rw [hsze] at hy
     have hy0 : y = 0 := by omega
     subst hy0
     have hx' : x < l.toNat := by omega
     have e1 := q5 x (by simpa using hx')
     have e0 : (List.replicate l.toNat (0 : Int)).getD x 0 = 0 := by simp [List.getD_eq_getElem?_getD, List.getElem?_replicate, hx']
     rw [e0] at e1
     have e2 : (List.replicate l.toNat (Value.int .u8 0)).getD (x * E.sz e + 0) undef = .int .u8 0 := by
      rw [hsze]
      simp [List.getD_eq_getElem?_getD, List.getElem?_replicate, hx']
     have e3 : cellAt E e (ys.getD x (E.dflt e)) 0 = .s (.int .u8 0) := by simp only [cellAt, e1]; rfl
     rw [e2, e3]
     exact give_s rfl
    have r2' : w'.ownsRowG 0 e (E.sz e) v' (xs.length + ys.length) (inner ++ List.replicate l.toNat (Value.int .u8 0)) := by rw [hsze, hyl]; exact r2
    obtain ⟨G', g1, g2, g3⟩ := append_fin (D := d) hM1 (hT.keep hs1.mle (Nat.le_refl _) fun k hk => ⟨hk, rfl⟩) h0 hsrc (fun _ _ _ _ _ _ _ _ _ _ h => h) (fun hd => ⟨hd, rfl⟩) r3 r2' r5
    exact ⟨_, _, _, _, G', h', r1, g1, g2, g3⟩
   ·cases h
  ·
   rename_i id
   obtain rfl := slices (by simp) (by simp)
   obtain ⟨b, hb, h⟩ := run_get h
   split at h
   ·rename_i d' e' ys
    split at h
    ·rename_i he
     subst he
     obtain ⟨news, F, hl, hin, hsub, hdis⟩ := row_lies hM1 hb
     have hx := hq1.2.2 _ _ _ hb
     split at h
     ·rename_i hfl
      obtain ⟨h1, h⟩ := run_need h
      have h' := run_put h
      have hsrc : Src E w0 Φ G m1 w e' u ys true news (fun _ _ _ => False) := ⟨hl.len, fun _ _ _ _ _ h => h.elim, fun _ _ _ _ _ _ _ _ _ h => h.elim, fun x y hx hy => by
       obtain ⟨v, hv⟩ := flat_cell hE hj hfl (ys.getD x (E.dflt e')) y
       have := hin x y hx hy
       rw [hv] at this ⊢
       exact give_of_s this⟩
      exact append_go (D := d) hE hT hi hd hj hM1 hs1 h0 (hx ▸ hl) hsrc (fun _ _ _ _ _ _ _ _ _ _ h => h) (fun hd => ⟨hd, rfl⟩) h1 h' ty
     ·obtain ⟨h1, h⟩ := run_need h
      have h' := run_put (run_del h)
      have hsd := Sub.del m1 id
      have hne : ∀ k, u.ownBlock = some k → ¬ G.fp id k := fun k hk hk' => (h0.blk k hk).2.2.2 id _ hb hk'
      have hsrc : Src E w0 Φ G (delm m1 id) w e' u ys d' news F := ⟨hl.len, fun x y k hx hy hk => ⟨free_of hM1 hb (hsub x y k hx hy hk).1, fun e => hne k e (hsub x y k hx hy hk).1⟩, hdis, fun x y hx hy => give_of_in (hin x y hx hy)⟩
      have h0' : Dst E w0 Φ G (delm m1 id) w e' u xs d inner F0 := ⟨h0.own, fun k hk => (h0.blk k hk).sub hsd, fun x y k hx hy hk => ⟨(h0.sub x y k hx hy hk).1.sub hsd, (h0.sub x y k hx hy hk).2⟩, h0.dis, h0.inn⟩
      exact append_go (D := d && d') hE hT hi hd hj (hM1.del id) (hs1.trans hsd) h0' (hx ▸ hl) hsrc (fun x y x' y' k h2 h3 h4 h5 h6 h7 => (h0.sub x y k h2 h3 h6).1.2.2.2 id _ hb (hsub x' y' k h4 h5 h7).1) (fun hd => by simpa using hd) h1 h' ty
    ·cases h
   ·cases h
  ·
   rename_i e' ys
   obtain rfl := slices (by simp) (by simp)
   split at h
   ·rename_i he
    subst he
    obtain ⟨h1, h⟩ := run_need h
    have h' := run_put h
    obtain ⟨news, hl, hin⟩ := imm_lies (G := G) hq1
    have hsrc : Src E w0 Φ G m1 w e' u ys (flat j) news (fun _ _ _ => False) := ⟨hl.len, fun _ _ _ _ _ h => h.elim, fun _ _ _ _ _ _ _ _ _ h => h.elim, fun x y hx hy => ⟨(hin x y hx hy).keep fun k hk => ⟨.inl hk, rfl⟩, fun hf => by
     obtain ⟨v, hv⟩ := flat_cell hE hj hf (ys.getD x (E.dflt e')) y
     have := hin x y hx hy
     rw [hv] at this ⊢
     obtain ⟨e1, e2⟩ := this.to_s
     rw [e1]; exact .s e2⟩⟩
    exact append_go (D := d && flat j) hE hT hi hd hj hM1 hs1 h0 hl hsrc (fun _ _ _ _ _ _ _ _ _ _ h => h) (fun hd => by simpa using hd) h1 h' ty
   ·cases h
  ·
   rename_i id lo k
   obtain rfl := slices (by simp) (by simp)
   obtain ⟨b, hb, h⟩ := run_get h
   split at h
   ·rename_i d' e' ys
    split at h
    ·rename_i he
     subst he
     split at h
     ·rename_i hfl
      obtain ⟨h1, h⟩ := run_need h
      have h' := run_put h
      obtain ⟨hlo, hx⟩ := hq1.2.2 _ _ _ hb
      obtain ⟨news, F, hl, hin, hsub, hdis⟩ := row_lies hM1 hb
      have hwl := win_lies hl hlo (fun A c hv => by
       obtain ⟨inner', F', ho, _⟩ := hM1.bl id _ hb
       obtain ⟨A', cap, hv', hle, _⟩ := ownsG_form ho
       rw [hv] at hv'; cases hv'; exact hle)
      have hkl : ((ys.drop lo).take k).length = k := by simp; omega
      have hsrc : Src E w0 Φ G m1 w e' u ((ys.drop lo).take k) true ((news.drop (lo * E.sz e')).take (k * E.sz e')) (fun _ _ _ => False) := ⟨by rw [hwl.len, hkl], fun _ _ _ _ _ h => h.elim, fun _ _ _ _ _ _ _ _ _ h => h.elim, fun x y hx hy => by
       rw [hkl] at hx
       have e1 : ((ys.drop lo).take k).getD x (E.dflt e') = ys.getD (lo + x) (E.dflt e') := by
        simp only [List.getD_eq_getElem?_getD, List.getElem?_take, List.getElem?_drop]
        rw [if_pos hx]
       have e2 : ((news.drop (lo * E.sz e')).take (k * E.sz e')).getD (x * E.sz e' + y) undef = news.getD ((lo + x) * E.sz e' + y) undef := by
        simp only [List.getD_eq_getElem?_getD, List.getElem?_take, List.getElem?_drop]
        rw [if_pos (lt_of_pair hx hy)]
        congr 2
        rw [Nat.add_mul]; omega
       rw [e1, e2]
       obtain ⟨v, hv⟩ := flat_cell hE hj hfl (ys.getD (lo + x) (E.dflt e')) y
       have := hin (lo + x) y (by omega) hy
       rw [hv] at this ⊢
       exact give_of_s this⟩
      exact append_go (D := d) hE hT hi hd hj hM1 hs1 h0 (by rw [hx, hkl]; exact hwl) hsrc (fun _ _ _ _ _ _ _ _ _ _ h => h) (fun hd => ⟨hd, rfl⟩) (by rw [hkl]; exact h1) h' ty
     ·split at h
      ·obtain ⟨h1, h⟩ := run_need h
       have h' := run_put h
       obtain ⟨hlo, hx⟩ := hq1.2.2 _ _ _ hb
       obtain ⟨news, F, hl, hin, hsub, hdis⟩ := row_lies hM1 hb
       have hwl := win_lies hl hlo (fun A c hv => by
        obtain ⟨inner', F', ho, _⟩ := hM1.bl id _ hb
        obtain ⟨A', cap, hv', hle, _⟩ := ownsG_form ho
        rw [hv] at hv'; cases hv'; exact hle)
       have hkl : ((ys.drop lo).take k).length = k := by simp; omega
       have hsrc : Src E w0 Φ G m1 w e' u ((ys.drop lo).take k) false ((news.drop (lo * E.sz e')).take (k * E.sz e')) (fun _ _ _ => False) := ⟨by rw [hwl.len, hkl], fun _ _ _ _ _ h => h.elim, fun _ _ _ _ _ _ _ _ _ h => h.elim, fun x y hx hy => by
        rw [hkl] at hx
        have e1 : ((ys.drop lo).take k).getD x (E.dflt e') = ys.getD (lo + x) (E.dflt e') := by
         simp only [List.getD_eq_getElem?_getD, List.getElem?_take, List.getElem?_drop]
         rw [if_pos hx]
        have e2 : ((news.drop (lo * E.sz e')).take (k * E.sz e')).getD (x * E.sz e' + y) undef = news.getD ((lo + x) * E.sz e' + y) undef := by
         simp only [List.getD_eq_getElem?_getD, List.getElem?_take, List.getElem?_drop]
         rw [if_pos (lt_of_pair hx hy)]
         congr 2
         rw [Nat.add_mul]; omega
        rw [e1, e2]
        have := hin (lo + x) y (by omega) hy
        unfold In at this
        rw [if_neg (by simp)] at this
        exact ⟨this.keep fun k hk => ⟨.inl hk, rfl⟩, fun hf => by cases hf⟩⟩
       exact append_go (D := false) hE hT hi hd hj hM1 hs1 h0 (by rw [hx, hkl]; exact hwl) hsrc (fun _ _ _ _ _ _ _ _ _ _ h => h) (fun hd => by cases hd) (by rw [hkl]; exact h1) h' ty
      ·cases h
    ·cases h
   ·cases h
  ·cases h
 have h := happ
 clear happ
 unfold appendA at h
 split at h
 ·obtain ⟨rfl, _⟩ := hp
  exact fin m [] true [] _ hM (Sub.refl m) (dst_nil e) h
 ·rename_i id
  obtain ⟨b, hb, h⟩ := run_get h
  split at h
  ·rename_i d e' xs
   split at h
   ·rename_i he
    subst he
    have h' := run_del h
    obtain rfl := hp.2.2 _ _ _ hb
    obtain ⟨inner, F, hdst, _⟩ := dst_row hM hb
    exact fin (delm m id) xs d inner F (hM.del id) (Sub.del m id) hdst h'
   ·cases h
  ·cases h
 ·cases h
theorem appendV_sound (hE : EnvOK E P) (hM : Mr E w0 Φ I0 G m n w) (hT : Tr E G ts m n a w) {t t' e : TypeId} {i j i' : TI} (hi : E.info t = some i) (hd : i.desc = .slice e) (hj : E.info e = some j) (hi' : E.info t' = some i')
  {p q : A1 E} {u x : Value} (hp : A1r E G w m n p u) (hq : A1r E G w m n q x) (hty : (t' = t ∧ (∀ s, q ≠ .s (.string s)) ∧ ∀ k l, q ≠ .s (.int k l)) ∨ (i'.desc = .string ∧ ∃ s, q = .s (.string s)) ∨ (∃ k, i'.desc = .int k) ∧ ∃ k l, q = .s (.int k l)) (h : (appendV n j e p q).run m K = some r) (ty : TypeId) :
  ∃ v' m' u' w' G', K v' m' = some r ∧ (Builtin.append_ #[t, t'] ty #[u, x]).run P w = .ok u' w' ∧ Mr E w0 Φ I0 G' m' (n + wide) w' ∧ Tr E G' ts m' (n + wide) a w' ∧ AVr E G' w' m' (n + wide) v' u' := by
 unfold appendV at h
 split at h
 ·split at h
  ·exact appendA_sound hE hM hT hi hd hj hi' hp hq hty h ty
  ·obtain ⟨b, hb, h⟩ := run_get h
   split at h
   ·have h' := run_put h
    obtain ⟨G', g1, g2, g3, g4⟩ := weaken_sound hM hb
    exact appendA_sound hE g1 (hT.keep g2 (Nat.le_refl _) g4) hi hd hj hi' (hp.keep g2 (Nat.le_refl _) g4) (hq.keep g2 (Nat.le_refl _) g4) hty h' ty
   ·exact appendA_sound hE hM hT hi hd hj hi' hp hq hty h ty
 ·exact appendA_sound hE hM hT hi hd hj hi' hp hq hty h ty
end
end Go.B
