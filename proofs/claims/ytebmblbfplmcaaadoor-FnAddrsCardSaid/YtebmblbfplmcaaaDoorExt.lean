/- strings.Split, Cut, Contains: what they answer, by the contracts of the library. -/
import Derived.Test.YtebmblbfplmcaaaDoorBEnv
import Derived.Test.YtebmblbfplmcaaaDoorBExt
import Derived.Test.YtebmblbfplmcaaaDoorShf
namespace Go.Proofs.YtebmblbfplmcaaaDoor.B
open Go Go.B
set_option linter.unusedVariables false
set_option linter.unusedSimpArgs false
def f36 (k : Nat) (s t : ByteArray) : Option (List ByteArray) := if s.size < 4294967281 ∧ 1 ≤ t.size then some (Lib.splitB t 0 (Lib.countB s t) s) else none
def f19 (k : Nat) (s t : ByteArray) : Option (ByteArray × ByteArray × Bool) := if s.size < 4294967281 then some (⟨(Lib.cut s.data.toList t.data.toList).1.toArray⟩, ⟨(Lib.cut s.data.toList t.data.toList).2.1.toArray⟩, (Lib.cut s.data.toList t.data.toList).2.2) else none
def f23 (k : Nat) (s t : ByteArray) : Option Bool := if s.size < 4294967281 then some (Lib.contains s.data.toList t.data.toList) else none
theorem split_row (w : World) (I : Nat → Prop) (ps : List ByteArray) (hm : ps.length ≤ maxLen) : Top env (w.alloc (.cells (ps.map Value.string).toArray 9)) I true (fun k => 0 = 0 ∧ 0 = 0 ∧ k = w.heap.size) (.slice (some ⟨w.heap.size, 0, none⟩) ps.length ps.length) 9 ps :=
  new_row (E := env) (w := w) (I := I) (e := 9) (xs := ps) (vs := ps.map Value.string) (fp := fun k => 0 = 0 ∧ 0 = 0 ∧ k = w.heap.size) rfl (by show (ps.map Value.string).length = ps.length; simp) hm ⟨rfl, rfl, rfl⟩ (fun i hi => by
    have hi' : i < ps.length := hi
    have e1 : (ps.map Value.string).getD i undef = .string (ps.getD i ByteArray.empty) := by
      simp [List.getD_eq_getElem?_getD, List.getElem?_map, List.getElem?_eq_getElem hi']
    rw [e1]
    exact ⟨rfl, rfl⟩)

theorem f36.ok (k : Nat) (s t : ByteArray) (r : List ByteArray) (h : f36 k s t = some r) : SoundAt env Tryd.prog 36 [.v (.c (.s (.string s))), .v (.c (.s (.string t)))] ⟨.v (.c (.own true 9 r)), [[], []]⟩ := by
  unfold f36 at h
  split at h
  case isFalse => cases h
  rename_i hs
  cases h
  have hlen := Lib.splitB_all t hs.2 0 _ s rfl
  have hle := Lib.countB_le t hs.2 s.size s (Nat.le_refl _)
  refine ext_sound (args := [.string s, .string t]) fun w I hI hg => ?_
  obtain ⟨hg0, ⟨m, hm⟩, _⟩ := hg
  refine (Tryd.strings_Split s t m w hs.1 hm hs.2).mono fun e w' ⟨h1, h2⟩ => ?_
  subst h2
  refine ⟨_, fun i j k => i = 0 ∧ j = 0 ∧ k = w.heap.size, h1, frame_alloc w _, ?_, fun i j k hk => ?_, fun i j i' j' k hk hk' => ⟨hk.1.trans hk'.1.symm, hk.2.1.trans hk'.2.1.symm⟩⟩
  · have ht := split_row w I (Lib.splitB t 0 (Lib.countB s t) s) (by rw [hlen]; simp only [Go.maxLen]; omega)
    rw [hlen] at ht
    exact ht
  · obtain ⟨_, _, rfl⟩ := hk
    exact ⟨Nat.le_refl _, by simp⟩

theorem f19.ok (k : Nat) (s t : ByteArray) (r : ByteArray × ByteArray × Bool) (h : f19 k s t = some r) : SoundAt env Tryd.prog 19 [.v (.c (.s (.string s))), .v (.c (.s (.string t)))] ⟨.tup [.c (.s (.string r.1)), .c (.s (.string r.2.1)), .c (.s (.bool r.2.2))], [[], []]⟩ := by
  unfold f19 at h
  split at h
  case isFalse => cases h
  rename_i hs
  cases h
  refine ext_sound (args := [.string s, .string t]) fun w I hI hg => ?_
  obtain ⟨hg0, ⟨m, hm⟩, _⟩ := hg
  refine (Tryd.strings_Cut s t m w hs hm).mono fun e w' ⟨h1, n, h2⟩ => ?_
  subst h2
  refine ⟨_, fun _ _ _ => False, h1, frame_drewN w n, ⟨_, rfl, rfl, fun j x hj => ?_⟩, fun i j k hk => hk.elim, fun i j i' j' k hk => hk.elim⟩
  match j, hj with
  | 0, hj => cases hj; exact ⟨rfl, rfl⟩
  | 1, hj => cases hj; exact ⟨rfl, rfl⟩
  | 2, hj => cases hj; exact ⟨rfl, rfl⟩

theorem f23.ok (k : Nat) (s t : ByteArray) (r : Bool) (h : f23 k s t = some r) : SoundAt env Tryd.prog 23 [.v (.c (.s (.string s))), .v (.c (.s (.string t)))] ⟨.v (.c (.s (.bool r))), [[], []]⟩ := by
  unfold f23 at h
  split at h
  case isFalse => cases h
  rename_i hs
  cases h
  refine ext_sound (args := [.string s, .string t]) fun w I hI hg => ?_
  obtain ⟨hg0, ⟨m, hm⟩, _⟩ := hg
  refine (Tryd.strings_Contains s t m w hs hm).mono fun e w' ⟨h1, h2⟩ => ?_
  subst h2
  exact ⟨_, fun _ _ _ => False, h1, frame_same w', ⟨rfl, rfl⟩, fun i j k hk => hk.elim, fun i j i' j' k hk => hk.elim⟩

def f36.w {R : Type} : List ByteArray → (Res env → Option R) → Option R := fun t K => K ⟨.v (.c (.own true 9 t)), [[], []]⟩
theorem f36.wn (x : List ByteArray) : ∃ res, ∀ {R : Type} (K : Res env → Option R), f36.w x K = K res := by
  exact ⟨_, fun _ => rfl⟩
def f36.hd (k : Nat) (ps_ : List (P2 env)) : Cl env :=
  gC Cl.no ps_ fun p_ ps_ => qC Cl.no p_ fun c_ => qS Cl.no c_ fun v_ => vS Cl.no v_ fun s1 => gC Cl.no ps_ fun p_ ps_ => qC Cl.no p_ fun c_ => qS Cl.no c_ fun v_ => vS Cl.no v_ fun s2 => gE Cl.no ps_ <| { α := List ByteArray, o := f36 k s1 s2, w := f36.w, nat := fun x _ => f36.wn x }
def f36.e (k : Nat) : Entry env := ⟨f36.hd k, [], []⟩
theorem f36.sound (k : Nat) : SoundC env Tryd.prog 36 ((f36.e k).F) := by
  intro ps_
  show GoodC _ _ _ ps_ (f36.hd k ps_)
  unfold f36.hd
  refine gC_ok (p := GoodC env Tryd.prog 36 _) goodC_no fun _ _ h => ?_
  subst h
  refine qC_ok (p := GoodC env Tryd.prog 36 _) goodC_no fun _ h => ?_
  subst h
  refine qS_ok (p := GoodC env Tryd.prog 36 _) goodC_no fun _ h => ?_
  subst h
  refine vS_ok (p := GoodC env Tryd.prog 36 _) goodC_no fun _ h => ?_
  subst h
  refine gC_ok (p := GoodC env Tryd.prog 36 _) goodC_no fun _ _ h => ?_
  subst h
  refine qC_ok (p := GoodC env Tryd.prog 36 _) goodC_no fun _ h => ?_
  subst h
  refine qS_ok (p := GoodC env Tryd.prog 36 _) goodC_no fun _ h => ?_
  subst h
  refine vS_ok (p := GoodC env Tryd.prog 36 _) goodC_no fun _ h => ?_
  subst h
  refine gE_ok (p := GoodC env Tryd.prog 36 _) goodC_no fun h => ?_
  subst h
  intro x hx
  exact ⟨_, fun _ => rfl, f36.ok k _ _ x hx⟩
theorem f36.fnok : FnOK Tryd.prog 36 := fn_ok Tryd.func36 (by kernel_rfl) rfl

def f19.w {R : Type} : ByteArray × ByteArray × Bool → (Res env → Option R) → Option R := fun t K => K ⟨.tup [.c (.s (.string t.1)), .c (.s (.string t.2.1)), .c (.s (.bool t.2.2))], [[], []]⟩
theorem f19.wn (x : ByteArray × ByteArray × Bool) : ∃ res, ∀ {R : Type} (K : Res env → Option R), f19.w x K = K res := by
  exact ⟨_, fun _ => rfl⟩
def f19.hd (k : Nat) (ps_ : List (P2 env)) : Cl env :=
  gC Cl.no ps_ fun p_ ps_ => qC Cl.no p_ fun c_ => qS Cl.no c_ fun v_ => vS Cl.no v_ fun s1 => gC Cl.no ps_ fun p_ ps_ => qC Cl.no p_ fun c_ => qS Cl.no c_ fun v_ => vS Cl.no v_ fun s2 => gE Cl.no ps_ <| { α := ByteArray × ByteArray × Bool, o := f19 k s1 s2, w := f19.w, nat := fun x _ => f19.wn x }
def f19.e (k : Nat) : Entry env := ⟨f19.hd k, [], []⟩
theorem f19.sound (k : Nat) : SoundC env Tryd.prog 19 ((f19.e k).F) := by
  intro ps_
  show GoodC _ _ _ ps_ (f19.hd k ps_)
  unfold f19.hd
  refine gC_ok (p := GoodC env Tryd.prog 19 _) goodC_no fun _ _ h => ?_
  subst h
  refine qC_ok (p := GoodC env Tryd.prog 19 _) goodC_no fun _ h => ?_
  subst h
  refine qS_ok (p := GoodC env Tryd.prog 19 _) goodC_no fun _ h => ?_
  subst h
  refine vS_ok (p := GoodC env Tryd.prog 19 _) goodC_no fun _ h => ?_
  subst h
  refine gC_ok (p := GoodC env Tryd.prog 19 _) goodC_no fun _ _ h => ?_
  subst h
  refine qC_ok (p := GoodC env Tryd.prog 19 _) goodC_no fun _ h => ?_
  subst h
  refine qS_ok (p := GoodC env Tryd.prog 19 _) goodC_no fun _ h => ?_
  subst h
  refine vS_ok (p := GoodC env Tryd.prog 19 _) goodC_no fun _ h => ?_
  subst h
  refine gE_ok (p := GoodC env Tryd.prog 19 _) goodC_no fun h => ?_
  subst h
  intro x hx
  exact ⟨_, fun _ => rfl, f19.ok k _ _ x hx⟩
theorem f19.fnok : FnOK Tryd.prog 19 := fn_ok Tryd.func19 (by kernel_rfl) rfl

def f23.w {R : Type} : Bool → (Res env → Option R) → Option R := fun t K => K ⟨.v (.c (.s (.bool t))), [[], []]⟩
theorem f23.wn (x : Bool) : ∃ res, ∀ {R : Type} (K : Res env → Option R), f23.w x K = K res := by
  exact ⟨_, fun _ => rfl⟩
def f23.hd (k : Nat) (ps_ : List (P2 env)) : Cl env :=
  gC Cl.no ps_ fun p_ ps_ => qC Cl.no p_ fun c_ => qS Cl.no c_ fun v_ => vS Cl.no v_ fun s1 => gC Cl.no ps_ fun p_ ps_ => qC Cl.no p_ fun c_ => qS Cl.no c_ fun v_ => vS Cl.no v_ fun s2 => gE Cl.no ps_ <| { α := Bool, o := f23 k s1 s2, w := f23.w, nat := fun x _ => f23.wn x }
def f23.e (k : Nat) : Entry env := ⟨f23.hd k, [], []⟩
theorem f23.sound (k : Nat) : SoundC env Tryd.prog 23 ((f23.e k).F) := by
  intro ps_
  show GoodC _ _ _ ps_ (f23.hd k ps_)
  unfold f23.hd
  refine gC_ok (p := GoodC env Tryd.prog 23 _) goodC_no fun _ _ h => ?_
  subst h
  refine qC_ok (p := GoodC env Tryd.prog 23 _) goodC_no fun _ h => ?_
  subst h
  refine qS_ok (p := GoodC env Tryd.prog 23 _) goodC_no fun _ h => ?_
  subst h
  refine vS_ok (p := GoodC env Tryd.prog 23 _) goodC_no fun _ h => ?_
  subst h
  refine gC_ok (p := GoodC env Tryd.prog 23 _) goodC_no fun _ _ h => ?_
  subst h
  refine qC_ok (p := GoodC env Tryd.prog 23 _) goodC_no fun _ h => ?_
  subst h
  refine qS_ok (p := GoodC env Tryd.prog 23 _) goodC_no fun _ h => ?_
  subst h
  refine vS_ok (p := GoodC env Tryd.prog 23 _) goodC_no fun _ h => ?_
  subst h
  refine gE_ok (p := GoodC env Tryd.prog 23 _) goodC_no fun h => ?_
  subst h
  intro x hx
  exact ⟨_, fun _ => rfl, f23.ok k _ _ x hx⟩
theorem f23.fnok : FnOK Tryd.prog 23 := fn_ok Tryd.func23 (by kernel_rfl) rfl

end Go.Proofs.YtebmblbfplmcaaaDoor.B
