/- strconv.Itoa, strconv.FormatInt at base 16, strings.Join: what they answer. -/
import Derived.Test.YtebmblbfplmcaaaDoorBEnv
import Derived.Test.YtebmblbfplmcaaaDoorBExt
import Derived.Test.YtebmblbfplmcaaaDoorShf
import Derived.Test.YtebmblbfplmcaaaDoorFmt
namespace Go.Proofs.YtebmblbfplmcaaaDoor.B
open Go Go.B Go.RowKit Go.Sort
set_option linter.unusedVariables false
set_option linter.unusedSimpArgs false
def f28 (k : Nat) (n : Int) : Option ByteArray := if 0 ≤ n ∧ n < 65536 then some ⟨(Lib.itoa n).toArray⟩ else none
def f66 (k : Nat) (n b : Int) : Option ByteArray := if 0 ≤ n ∧ n < 65536 ∧ b = 16 then some ⟨(Fmt.hexL n.toNat).toArray⟩ else none
def f29 (k : Nat) (xs : List ByteArray) (s : ByteArray) : Option (ByteArray × List ByteArray) := if xs.length ≤ 1000 ∧ (Lib.join (xs.map (·.data.toList)) s.data.toList).length ≤ 140737488355328 then some (⟨(Lib.join (xs.map (·.data.toList)) s.data.toList).toArray⟩, xs) else none
theorem frame_below {w w' : World} (h : RowKit.Below w.heap.size w w') : Go.B.Frame (fun _ => False) w w' := ⟨h.os, h.tape, h.output, h.size, fun k hk _ => h.block k hk⟩
theorem frame_grow (w : World) (k : Nat) (os : Array Obj) : Go.B.Frame (fun _ => False) w (grow (w.drewN k) os) := ⟨rfl, rfl, rfl, by simp [grow, World.drewN], fun i hi _ => by
  show (w.heap ++ os)[i]? = _
  rw [Array.getElem?_append, if_pos hi]⟩
theorem f28.ok (k : Nat) (n : Int) (r : ByteArray) (h : f28 k n = some r) : SoundAt env Tryd.prog 28 [.v (.c (.s (.int .i64 n)))] ⟨.v (.c (.s (.string r))), [[]]⟩ := by
  unfold f28 at h
  split at h
  case isFalse => cases h
  rename_i hs
  cases h
  refine ext_sound (args := [.int .i64 n]) fun w I hI hg => ?_
  obtain ⟨hg0, ⟨m, hm⟩, ht, hc⟩ := hg
  refine (Tryd.strconv_Itoa n (by omega) (by omega) w ht).mono fun e w' ⟨h1, q, os, h2⟩ => ?_
  subst h2
  exact ⟨_, fun _ _ _ => False, h1, frame_grow w q os, ⟨rfl, rfl⟩, fun i j k hk => hk.elim, fun i j i' j' k hk => hk.elim⟩
theorem f66.ok (k : Nat) (n b : Int) (r : ByteArray) (h : f66 k n b = some r) : SoundAt env Tryd.prog 66 [.v (.c (.s (.int .i64 n))), .v (.c (.s (.int .i64 b)))] ⟨.v (.c (.s (.string r))), [[], []]⟩ := by
  unfold f66 at h
  split at h
  case isFalse => cases h
  rename_i hs
  obtain ⟨h0, h1, rfl⟩ := hs
  cases h
  obtain ⟨i, rfl⟩ : ∃ i : Nat, n = i := ⟨n.toNat, by omega⟩
  refine ext_sound (args := [.int .i64 (i : Int), .int .i64 16]) fun w I hI hg => ?_
  obtain ⟨hg0, ⟨m, hm⟩, ht, hc⟩ := hg
  refine (Fmt.formatInt i (by omega) w hc).mono fun e w' ⟨h1, h2⟩ => ?_
  exact ⟨_, fun _ _ _ => False, h1, frame_below h2, ⟨rfl, rfl⟩, fun i j k hk => hk.elim, fun i j i' j' k hk => hk.elim⟩
theorem f29.ok (k : Nat) (xs : List ByteArray) (s : ByteArray) (r : ByteArray × List ByteArray) (h : f29 k xs s = some r) : SoundAt env Tryd.prog 29 [.v (.c (.wr 9 xs)), .v (.c (.s (.string s)))] ⟨.v (.c (.s (.string r.1))), [[.sl 9 r.2], []]⟩ := by
  unfold f29 at h
  split at h
  case isFalse => cases h
  rename_i hs
  cases h
  intro vals w I Φ g F hI hgl hΦ hA
  have c0 : Ow env w (F 0 0) (vals.getD 0 undef) (.sl 9 xs) := hA.c 0 _ rfl
  have c1 : Rd env w I (vals.getD 1 undef) (.s (.string s)) := hA.c 1 _ rfl
  have hv1 : vals.getD 1 undef = .string s := by
    generalize vals.getD 1 undef = z at c1
    cases c1; rfl
  have hvals : vals = #[vals.getD 0 undef, .string s] := by
    rw [← hv1]
    have hlen := hA.len
    apply Array.ext (by simpa using hlen)
    intro j h1 h2
    have hj : j = 0 ∨ j = 1 := by simp at h2; omega
    rcases hj with rfl | rfl <;> simp [Array.getD_eq_getD_getElem?, Array.getElem?_eq_getElem h1]
  have key : Calls Tryd.prog 29 #[vals.getD 0 undef, .string s] w fun e w' => e = .returned (.string ⟨(Lib.join (xs.map (·.data.toList)) s.data.toList).toArray⟩) ∧ RowKit.Below w.heap.size w w' := by
    generalize vals.getD 0 undef = u at c0
    cases c0 with
    | sl ho hb hf hd hr =>
      rename_i inner F'
      have hsz : env.sz 9 = 1 := rfl
      rcases ho.2 with ⟨hu, hn⟩ | ⟨bk, cap, cur, hu, _, hcell, hcap, hcm, hcs, htk, _⟩
      · subst hu
        obtain rfl : xs = [] := List.length_eq_zero_iff.1 hn
        exact (Tryd.strings_Join_none none 0 s w).mono fun e w' ⟨a, b⟩ => ⟨a, b ▸ RowKit.Below.refl _ _⟩
      · subst hu
        have hbk : bk < w.heap.size := (Array.getElem?_eq_some_iff.1 hcell).1
        refine Tryd.strings_Join bk 0 cap xs s w (fun j x hx => ?_) hbk (by omega) hcap hs.2
        have hj : j < xs.length := (List.getElem?_eq_some_iff.1 hx).1
        have hxd : @List.getD (env.T 9) xs j (env.dflt 9) = x := by
          show xs.getD j ByteArray.empty = x
          rw [List.getD_eq_getElem?_getD, hx]; rfl
        have h0 := hr j 0 hj (by rw [hsz]; omega)
        rw [hsz, Nat.mul_one, Nat.add_zero] at h0
        have h1 : Ow env w (F' j 0) (inner.getD j undef) (cellAt env 9 x 0) := cast (congrArg (fun y => Ow env w (F' j 0) (inner.getD j undef) (cellAt env 9 y 0)) hxd) h0
        have h2 : inner.getD j undef = .string x := by
          have h3 : cellAt env 9 x 0 = .s (.string x) := rfl
          rw [h3] at h1
          generalize inner.getD j undef = z at h1
          cases h1; rfl
        have htk' : cur.1.toList.take (List.length (α := ByteArray) xs) = inner := by rw [hsz, Nat.mul_one] at htk; exact htk
        have hcap' : List.length (α := ByteArray) xs ≤ cap := hcap
        have hcs' : cur.1.size = cap := by have h9 := hcs; rw [hsz, Nat.mul_one] at h9; exact h9
        have h4 : inner[j]? = cur.1[j]? := by rw [← htk', List.getElem?_take, if_pos hj, Array.getElem?_toList]
        have h5 : inner[j]? = some (inner.getD j undef) := by
          have hjl : j < inner.length := by
            have h9 : inner.length = min xs.length cur.1.toList.length := by rw [← htk', List.length_take]
            have h8 : cur.1.toList.length = cur.1.size := by simp
            omega
          rw [List.getD_eq_getElem?_getD, List.getElem?_eq_getElem hjl]; rfl
        rw [← h2, ← h5, h4]
        simp [World.cell?, hcell]
  rw [hvals]
  refine key.mono fun e w' ⟨h1, h2⟩ => ?_
  have hsame : ∀ k, k < w.heap.size → w'.heap[k]? = w.heap[k]? := fun k hk => h2.block k hk
  refine ⟨_, I, fun _ _ _ => False, F, h1, ⟨h2.os, h2.tape, h2.output, h2.size, fun k hk _ => h2.block k hk⟩, fun k hk => hk, fun k hk => .inl hk, ⟨rfl, rfl⟩, fun i j k hk => hk.elim, fun i j i' j' k hk => hk.elim, rfl, fun j cs u hj => ?_, fun j p l e ys hj hl => ?_, fun j l k hk => ?_, hA.wd⟩
  · match j, hj with
    | 0, hj => cases hj
    | 1, hj => cases hj
  · match j, l, hj, hl with
    | 0, 0, hj, hl =>
      cases hj
      cases hl
      refine ⟨_, rfl, .inl ⟨9, xs, rfl, ?_⟩⟩
      show Ow env w' (F 0 0) _ _
      exact c0.keep fun k hk => ⟨hk, hsame k (hΦ k (hA.wr 0 0 k hk)).1⟩
    | 0, l + 1, hj, hl => cases hj; simp [pcells] at hl
    | 1, 0, hj, hl => cases hj; cases hl
    | 1, l + 1, hj, hl => cases hj; simp [pcells] at hl
  · have hp := hA.wr j l k hk
    have := (hΦ k hp).1
    exact ⟨.inl hp, Nat.lt_of_lt_of_le this h2.size, fun hi => (hI k hi).2 hp, fun _ _ h => h⟩
def f28.w {R : Type} : ByteArray → (Res env → Option R) → Option R := fun t K => K ⟨.v (.c (.s (.string t))), [[]]⟩
theorem f28.wn (x : ByteArray) : ∃ res, ∀ {R : Type} (K : Res env → Option R), f28.w x K = K res := by
  exact ⟨_, fun _ => rfl⟩
def f28.hd (k : Nat) (ps_ : List (P2 env)) : Cl env :=
  gC Cl.no ps_ fun p_ ps_ => qC Cl.no p_ fun c_ => qS Cl.no c_ fun v_ => vI Cl.no .i64 v_ fun n1 => gE Cl.no ps_ <| { α := ByteArray, o := f28 k n1, w := f28.w, nat := fun x _ => f28.wn x }
def f28.e (k : Nat) : Entry env := ⟨f28.hd k, [], []⟩
theorem f28.sound (k : Nat) : SoundC env Tryd.prog 28 ((f28.e k).F) := by
  intro ps_
  show GoodC _ _ _ ps_ (f28.hd k ps_)
  unfold f28.hd
  refine gC_ok (p := GoodC env Tryd.prog 28 _) goodC_no fun _ _ h => ?_
  subst h
  refine qC_ok (p := GoodC env Tryd.prog 28 _) goodC_no fun _ h => ?_
  subst h
  refine qS_ok (p := GoodC env Tryd.prog 28 _) goodC_no fun _ h => ?_
  subst h
  refine vI_ok (p := GoodC env Tryd.prog 28 _) goodC_no fun _ h => ?_
  subst h
  refine gE_ok (p := GoodC env Tryd.prog 28 _) goodC_no fun h => ?_
  subst h
  intro x hx
  exact ⟨_, fun _ => rfl, f28.ok k _ x hx⟩
theorem f28.fnok : FnOK Tryd.prog 28 := fn_ok Tryd.func28 (by kernel_rfl) rfl
def f66.w {R : Type} : ByteArray → (Res env → Option R) → Option R := fun t K => K ⟨.v (.c (.s (.string t))), [[], []]⟩
theorem f66.wn (x : ByteArray) : ∃ res, ∀ {R : Type} (K : Res env → Option R), f66.w x K = K res := by
  exact ⟨_, fun _ => rfl⟩
def f66.hd (k : Nat) (ps_ : List (P2 env)) : Cl env :=
  gC Cl.no ps_ fun p_ ps_ => qC Cl.no p_ fun c_ => qS Cl.no c_ fun v_ => vI Cl.no .i64 v_ fun n1 => gC Cl.no ps_ fun p_ ps_ => qC Cl.no p_ fun c_ => qS Cl.no c_ fun v_ => vI Cl.no .i64 v_ fun n2 => gE Cl.no ps_ <| { α := ByteArray, o := f66 k n1 n2, w := f66.w, nat := fun x _ => f66.wn x }
def f66.e (k : Nat) : Entry env := ⟨f66.hd k, [], []⟩
theorem f66.sound (k : Nat) : SoundC env Tryd.prog 66 ((f66.e k).F) := by
  intro ps_
  show GoodC _ _ _ ps_ (f66.hd k ps_)
  unfold f66.hd
  refine gC_ok (p := GoodC env Tryd.prog 66 _) goodC_no fun _ _ h => ?_
  subst h
  refine qC_ok (p := GoodC env Tryd.prog 66 _) goodC_no fun _ h => ?_
  subst h
  refine qS_ok (p := GoodC env Tryd.prog 66 _) goodC_no fun _ h => ?_
  subst h
  refine vI_ok (p := GoodC env Tryd.prog 66 _) goodC_no fun _ h => ?_
  subst h
  refine gC_ok (p := GoodC env Tryd.prog 66 _) goodC_no fun _ _ h => ?_
  subst h
  refine qC_ok (p := GoodC env Tryd.prog 66 _) goodC_no fun _ h => ?_
  subst h
  refine qS_ok (p := GoodC env Tryd.prog 66 _) goodC_no fun _ h => ?_
  subst h
  refine vI_ok (p := GoodC env Tryd.prog 66 _) goodC_no fun _ h => ?_
  subst h
  refine gE_ok (p := GoodC env Tryd.prog 66 _) goodC_no fun h => ?_
  subst h
  intro x hx
  exact ⟨_, fun _ => rfl, f66.ok k _ _ x hx⟩
theorem f66.fnok : FnOK Tryd.prog 66 := fn_ok Tryd.func66 (by kernel_rfl) rfl
def f29.w {R : Type} : ByteArray × List ByteArray → (Res env → Option R) → Option R := fun t K => K ⟨.v (.c (.s (.string t.1))), [[.sl 9 t.2], []]⟩
theorem f29.wn (x : ByteArray × List ByteArray) : ∃ res, ∀ {R : Type} (K : Res env → Option R), f29.w x K = K res := by
  exact ⟨_, fun _ => rfl⟩
def f29.hd (k : Nat) (ps_ : List (P2 env)) : Cl env :=
  gC Cl.no ps_ fun p_ ps_ => qC Cl.no p_ fun c_ => qWr Cl.no 9 c_ fun xs1 => gC Cl.no ps_ fun p_ ps_ => qC Cl.no p_ fun c_ => qS Cl.no c_ fun v_ => vS Cl.no v_ fun s2 => gE Cl.no ps_ <| { α := ByteArray × List ByteArray, o := f29 k xs1 s2, w := f29.w, nat := fun x _ => f29.wn x }
def f29.e (k : Nat) : Entry env := ⟨f29.hd k, [(0, 0)], []⟩
theorem f29.sound (k : Nat) : SoundC env Tryd.prog 29 ((f29.e k).F) := by
  intro ps_
  show GoodC _ _ _ ps_ (f29.hd k ps_)
  unfold f29.hd
  refine gC_ok (p := GoodC env Tryd.prog 29 _) goodC_no fun _ _ h => ?_
  subst h
  refine qC_ok (p := GoodC env Tryd.prog 29 _) goodC_no fun _ h => ?_
  subst h
  refine qWr_ok (p := GoodC env Tryd.prog 29 _) goodC_no fun _ h => ?_
  subst h
  refine gC_ok (p := GoodC env Tryd.prog 29 _) goodC_no fun _ _ h => ?_
  subst h
  refine qC_ok (p := GoodC env Tryd.prog 29 _) goodC_no fun _ h => ?_
  subst h
  refine qS_ok (p := GoodC env Tryd.prog 29 _) goodC_no fun _ h => ?_
  subst h
  refine vS_ok (p := GoodC env Tryd.prog 29 _) goodC_no fun _ h => ?_
  subst h
  refine gE_ok (p := GoodC env Tryd.prog 29 _) goodC_no fun h => ?_
  subst h
  intro x hx
  exact ⟨_, fun _ => rfl, f29.ok k _ _ x hx⟩
theorem f29.fnok : FnOK Tryd.prog 29 := fn_ok Tryd.func29 (by kernel_rfl) rfl
end Go.Proofs.YtebmblbfplmcaaaDoor.B
