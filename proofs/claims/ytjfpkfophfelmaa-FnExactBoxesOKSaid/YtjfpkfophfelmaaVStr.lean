import Derived.Test.YtjfpkfophfelmaaVMore
namespace Go.Proofs.YtjfpkfophfelmaaV.PrintWords
open Go.RowKit
namespace Kd
section
variable {P : Program} {W : World}
theorem str_ok {v v1 : Value} {ok : Nat → Prop} (h0 : ∀ k, v.ownBlock = some k → ok k) (hfresh : ∀ k, W.heap.size ≤ k → ok k) (hat : v1.ownBlock = v.ownBlock ∨ ∃ b, v1.ownBlock = some b ∧ W.heap.size ≤ b) : ∀ k, v1.ownBlock = some k → ok k := by
  intro k hk
  rcases hat with hat | ⟨b, hb, hle⟩
  · exact h0 k (hat ▸ hk)
  · rw [hb] at hk
    injection hk with hk
    exact hfresh k (by omega)
theorem strCells_nums (y : ByteArray) : Lib.strCells y = encs (Value.int .u8) (bytesOf y) := by simp [encs, bytesOf, Lib.strCells]
theorem append_str_run (base : Nat) (t u ty e : TypeId) (ht : P.underlying t = some (.slice e)) (hu : P.underlying u = some .string) (hinfo : (P.info? e).map (fun i => (i.zero, i.size, i.bytes)) = some (some (.int .u8 0), 1, 1))
    (v : Value) (xs : List Int) (y : ByteArray) {ok : Nat → Prop} (hfresh : ∀ k, W.heap.size ≤ k → ok k) (HO : (Kd.int .u8).R e W base ok v xs) (hbase : base ≤ W.heap.size) (hl : xs.length + y.size ≤ 140737488355328) :
    ∃ v1 w1, (Builtin.append_ #[t, u] ty #[v, .string y]).run P W = .ok v1 w1 ∧ (Kd.int .u8).R e w1 base ok v1 (xs ++ bytesOf y) ∧ W.grownBy w1 v.ownBlock ∧ (v1.ownBlock = v.ownBlock ∨ ∃ b, v1.ownBlock = some b ∧ W.heap.size ≤ b) := by
  obtain ⟨i0, hi, hzz⟩ := Option.map_eq_some_iff.1 hinfo
  simp only [Prod.mk.injEq] at hzz
  obtain ⟨hz0, hz1, hz2⟩ := hzz
  have hown : W.ownsRowG base e 1 v xs.length (encs (Value.int .u8) xs) := own_of_R (h1 := fun _ => rfl) HO
  obtain ⟨v1, w1, hr, h2, h3, _, h5⟩ := Lib.run_append_own_stringG (P := P) W base t u ty e i0 ht hu hi hz0 hz1 hz2 v xs.length (encs (Value.int .u8) xs) hown y (by simp only [maxLen]; omega) hl hbase
  have hl2 : (xs ++ bytesOf y).length = xs.length + y.size := by rw [List.length_append, bytesOf_length]
  exact ⟨v1, w1, hr, R_of_own (by rw [hl2, encs_append, ← strCells_nums]; exact h2) (str_ok HO.1 hfresh h5), h3, h5⟩
theorem bytes_run (src dst e : TypeId) (hs : P.underlying src = some .string) (hd : P.underlying dst = some (.slice e)) (he : P.underlying e = some (.int .u8)) (y : ByteArray) (hm : y.size ≤ 140737488355328) {ok : Nat → Prop} (hfresh : ok W.heap.size) :
    ∃ v1 w1, (convert src dst (.string y)).run P W = .ok v1 w1 ∧ (Kd.int .u8).R e w1 W.heap.size ok v1 (bytesOf y) ∧ W.grownBy w1 none ∧ (∃ b, v1.ownBlock = some b ∧ W.heap.size ≤ b) := by
  have hr := Lib.run_convert_string_bytes (P := P) W src dst e y hs hd he
  obtain ⟨ho, hg⟩ := Lib.bytesWorld_ownsG W e y (by simp only [maxLen]; omega)
  refine ⟨_, _, hr, R_of_own (by rw [bytesOf_length, ← strCells_nums]; exact ho) (fun k hk => ?_), hg, ⟨W.heap.size, by simp [Value.ownBlock], Nat.le_refl _⟩⟩
  have : W.heap.size = k := by simpa [Value.ownBlock] using hk
  exact this ▸ hfresh
theorem mark_run (base : Nat) (t e : TypeId) (ht : P.underlying t = some (.slice e)) (he : P.underlying e = some (.int .u8)) (v : Value) (xs : List Int) {ok : Nat → Prop} (HO : (Kd.int .u8).R e W base ok v xs) (hl : 0 < xs.length) :
    ∃ w1, (convert t t v).run P W = .ok v w1 ∧ (Kd.int .u8).R e w1 base ok v xs ∧ W.grownBy w1 v.ownBlock := by
  have hown : W.ownsRowG base e 1 v xs.length (encs (Value.int .u8) xs) := own_of_R (h1 := fun _ => rfl) HO
  obtain ⟨w1, hr, h2, h3⟩ := Lib.run_convert_own_bytes (P := P) W base t e ht he v xs.length _ hl hown
  exact ⟨w1, hr, R_of_own h2 HO.1, h3⟩
end
section
variable {P : Program} {ops : Array Oper} {rest : List Oper} {o : Oper} {a : Act} {Q : Exit → Act → World → Prop}
theorem R_append_str {w0 W : World} (base : Nat) (hgd : o.guard = none) (s x : Operand) (t u e : TypeId)
    (ho : o.op = .call { callee := .builtin .append, args := #[s, x], argTypes := #[t, u] })
    (ht : P.underlying t = some (.slice e)) (hu : P.underlying u = some .string) (hinfo : (P.info? e).map (fun i => (i.zero, i.size, i.bytes)) = some (some (.int .u8 0), 1, 1))
    (v : Value) (xs : List Int) (y : ByteArray) (ok : Nat → Prop) (hs : a.eval s = v) (hx : a.eval x = .string y) (hfresh : ∀ k, W.heap.size ≤ k → ok k)
    (HO : (Kd.int .u8).R e W base ok v xs) (HB : Below base w0 W) (hbase : base ≤ W.heap.size) (hl : xs.length + y.size ≤ 140737488355328)
    (h : ∀ v1 w1, (Kd.int .u8).R e w1 base ok v1 (xs ++ bytesOf y) → Below base w0 w1 → W.grownBy w1 v.ownBlock → (v1.ownBlock = v.ownBlock ∨ ∃ b, v1.ownBlock = some b ∧ W.heap.size ≤ b) → wpList P ops Q rest (a.put o.dst v1) w1) :
    wpList P ops Q (o :: rest) a W := by
  obtain ⟨v1, w1, hr, h1, hg, hat⟩ := append_str_run (P := P) base t u o.type e ht hu hinfo v xs y hfresh HO hbase hl
  refine wpList_plain hgd fun K hK => ?_
  unfold Oper.wp execOp
  simp only [ho, resolve, invoke, builtin, Sem.run_bind, Sem.run_pure, Result.andThen_ok, List.map_toArray, List.map_cons, List.map_nil, hs, hx, hr]
  exact hK _ _ (h v1 w1 h1 (HB.grown hg hbase (R_base HO)) hg hat)
theorem R_append_mark {w0 W : World} (base : Nat) (hgd : o.guard = none) (s : Operand) (t e : TypeId) (ho : o.op = .convert t t s)
    (ht : P.underlying t = some (.slice e)) (he : P.underlying e = some (.int .u8))
    (v : Value) (xs : List Int) (ok : Nat → Prop) (hs : a.eval s = v) (_hfresh : ∀ k, W.heap.size ≤ k → ok k)
    (HO : (Kd.int .u8).R e W base ok v xs) (HB : Below base w0 W) (hbase : base ≤ W.heap.size) (hl : 0 < xs.length)
    (h : ∀ v1 w1, (Kd.int .u8).R e w1 base ok v1 xs → Below base w0 w1 → W.grownBy w1 v.ownBlock → (v1.ownBlock = v.ownBlock ∨ ∃ b, v1.ownBlock = some b ∧ W.heap.size ≤ b) → wpList P ops Q rest (a.put o.dst v1) w1) :
    wpList P ops Q (o :: rest) a W := by
  obtain ⟨w1, hr, h1, hg⟩ := mark_run (P := P) base t e ht he v xs HO hl
  refine event_run hgd (v := v) (w1 := w1) ?_ (h v w1 h1 (HB.grown hg hbase (R_base HO)) hg (.inl rfl))
  simp [execOp, ho, hs, hr]
theorem R_bytes {w0 W : World} (hgd : o.guard = none) {N : Tmp} (_hd : o.dst = some N) (x : Operand) (src t e : TypeId) (ho : o.op = .convert src t x)
    (hsrc : P.underlying src = some .string) (ht : P.underlying t = some (.slice e)) (he : P.underlying e = some (.int .u8))
    (y : ByteArray) (ok : Nat → Prop) (hx : a.eval x = .string y) (hfresh : ok W.heap.size) (HB : Below W.heap.size w0 W) (hl : y.size ≤ 140737488355328)
    (h : ∀ v1 w1, (Kd.int .u8).R e w1 W.heap.size ok v1 (bytesOf y) → Below W.heap.size w0 w1 → W.grownBy w1 none → (∃ b, v1.ownBlock = some b ∧ W.heap.size ≤ b) → wpList P ops Q rest (a.put o.dst v1) w1) :
    wpList P ops Q (o :: rest) a W := by
  obtain ⟨v1, w1, hr, h1, hg, hat⟩ := bytes_run (P := P) src t e hsrc ht he y hl (ok := ok) hfresh
  refine event_run hgd (v := v1) (w1 := w1) ?_ (h v1 w1 h1 (HB.grown hg (Nat.le_refl _) (fun k hk => by cases hk)) hg hat)
  simp [execOp, ho, hx, hr]
end
section
variable {P : Program} {ops : Array Oper} {o : Oper} {a : Act} {Q : Exit → Act → World → Prop} {Kc : Act → World → Prop}
theorem R_append_str_step {w0 W : World} (base : Nat) (hw : Region.wanted o (yielded ops a.tmps) = true) (s x : Operand) (t u e : TypeId)
    (ho : o.op = .call { callee := .builtin .append, args := #[s, x], argTypes := #[t, u] })
    (ht : P.underlying t = some (.slice e)) (hu : P.underlying u = some .string) (hinfo : (P.info? e).map (fun i => (i.zero, i.size, i.bytes)) = some (some (.int .u8 0), 1, 1))
    (v : Value) (xs : List Int) (y : ByteArray) (ok : Nat → Prop) (hs : a.eval s = v) (hx : a.eval x = .string y) (hfresh : ∀ k, W.heap.size ≤ k → ok k)
    (HO : (Kd.int .u8).R e W base ok v xs) (HB : Below base w0 W) (hbase : base ≤ W.heap.size) (hl : xs.length + y.size ≤ 140737488355328)
    (h : ∀ v1 w1, (Kd.int .u8).R e w1 base ok v1 (xs ++ bytesOf y) → Below base w0 w1 → W.grownBy w1 v.ownBlock → (v1.ownBlock = v.ownBlock ∨ ∃ b, v1.ownBlock = some b ∧ W.heap.size ≤ b) → Kc (a.put o.dst v1) w1) :
    if Region.wanted o (yielded ops a.tmps) = true then Oper.wp P o a W Kc Q else Kc (a.put o.dst undef) W := by
  obtain ⟨v1, w1, hr, h1, hg, hat⟩ := append_str_run (P := P) base t u o.type e ht hu hinfo v xs y hfresh HO hbase hl
  rw [if_pos hw]
  unfold Oper.wp execOp
  simp only [ho, resolve, invoke, builtin, Sem.run_bind, Sem.run_pure, Result.andThen_ok, List.map_toArray, List.map_cons, List.map_nil, hs, hx, hr]
  exact h v1 w1 h1 (HB.grown hg hbase (R_base HO)) hg hat
theorem R_bytes_step {w0 W : World} (hw : Region.wanted o (yielded ops a.tmps) = true) {N : Tmp} (_hd : o.dst = some N) (x : Operand) (src t e : TypeId) (ho : o.op = .convert src t x)
    (hsrc : P.underlying src = some .string) (ht : P.underlying t = some (.slice e)) (he : P.underlying e = some (.int .u8))
    (y : ByteArray) (ok : Nat → Prop) (hx : a.eval x = .string y) (hfresh : ok W.heap.size) (HB : Below W.heap.size w0 W) (hl : y.size ≤ 140737488355328)
    (h : ∀ v1 w1, (Kd.int .u8).R e w1 W.heap.size ok v1 (bytesOf y) → Below W.heap.size w0 w1 → W.grownBy w1 none → (∃ b, v1.ownBlock = some b ∧ W.heap.size ≤ b) → Kc (a.put o.dst v1) w1) :
    if Region.wanted o (yielded ops a.tmps) = true then Oper.wp P o a W Kc Q else Kc (a.put o.dst undef) W := by
  obtain ⟨v1, w1, hr, h1, hg, hat⟩ := bytes_run (P := P) src t e hsrc ht he y hl (ok := ok) hfresh
  rw [if_pos hw]
  have hrun : (execOp a.eval o).run P W = .ok (.value v1) w1 := by simp [execOp, ho, hx, hr]
  unfold Oper.wp
  rw [hrun]
  exact h v1 w1 h1 (HB.grown hg (Nat.le_refl _) (fun k hk => by cases hk)) hg hat
end
end Kd
end Go.Proofs.YtjfpkfophfelmaaV.PrintWords

