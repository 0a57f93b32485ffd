/- The program's CacheOK answers what the reference's answers, for every cache; no condition. -/
import Derived.Test.YtblmghlopolknaaSaysFnExactCacheOK
import Derived.Test.YtblmghlopolknaaAid
namespace Go.Proofs.Ytblmghlopolknaa.Pure
open Go.RowKit Go.Proofs.Ytblmghlopolknaa.QFnExactCacheOK Go.Proofs.YtblmghlopolknaaW.PrintWords Go.Proofs.YtblmghlopolknaaW.PrintLast Go.Proofs.Ytblmghlopolknaa.Aid Go.Proofs.Ytblmghlopolknaa.SaysFnExactCacheOK

theorem spec_in (a b c : Int) : spec_l01In.f a b c = some (decide (b ≤ a ∧ a ≤ c)) := by
  unfold spec_l01In.f
  split <;> simp <;> omega
theorem impl_in (a b c : Int) : impl_inRange.f a b c = some (decide (b ≤ a ∧ a ≤ c)) := by
  unfold impl_inRange.f
  split <;> simp <;> omega
/-! ### Neighbours: sizes, copies, comparing -/
def conv (x : S165) : S127 := ⟨x.f0, x.f1, x.f2, x.f3, x.f4, x.f5⟩
theorem rd165 (l : List S165) (i : Nat) (h : i < l.length) : rd_T165 l (i : Int) = l[i] := by
  simp [rd_T165, List.getD_eq_getElem?_getD, List.getElem?_eq_getElem h]
theorem rd127 (l : List S127) (i : Nat) (h : i < l.length) : rd_T127 l (i : Int) = l[i] := by
  simp [rd_T127, List.getD_eq_getElem?_getD, List.getElem?_eq_getElem h]
theorem szIntS_ev (l : List Int) (a : Int) : laws_szIntS.f l a = some (if wrap64 (a - (l.length : Int)) < 0 then -1 else wrap64 (a - (l.length : Int))) := by
  unfold laws_szIntS.f
  split <;> rfl
theorem szNeighbour_ev (x y : ByteArray) (b c d : Int) (l : List Int) (a : Int) (h1 : x.size ≤ maxLen) (h2 : y.size ≤ maxLen) (h3 : l.length ≤ maxLen) (a0 : 0 ≤ a) (a1 : a ≤ 1048576) :
    ∃ r, laws_szNeighbour.f x y b c d l a = some r ∧ (r < 0 ∨ 0 ≤ r ∧ r ≤ 1048576 ∧ l.length ≤ 1048576) := by
  unfold maxLen at h1 h2 h3
  unfold laws_szNeighbour.f
  rw [wrap64_in (n := a - (x.size : Int)) (by omega) (by omega)]
  by_cases c1 : a - (x.size : Int) < 0
  · rw [if_pos c1]
    exact ⟨-1, rfl, .inl (by omega)⟩
  · rw [if_neg c1, wrap64_in (n := a - (x.size : Int) - (y.size : Int)) (by omega) (by omega)]
    by_cases c2 : a - (x.size : Int) - (y.size : Int) < 0
    · rw [if_pos c2]
      exact ⟨-1, rfl, .inl (by omega)⟩
    · rw [if_neg c2, szIntS_ev, wrap64_in (n := a - (x.size : Int) - (y.size : Int) - (l.length : Int)) (by omega) (by omega)]
      simp only [Option.bind_some]
      by_cases c3 : a - (x.size : Int) - (y.size : Int) - (l.length : Int) < 0
      · rw [if_pos c3]
        exact ⟨-1, rfl, .inl (by omega)⟩
      · rw [if_neg c3, if_neg c3]
        exact ⟨_, rfl, .inr (by omega)⟩
theorem szNeighbours_l0 (l : List S165) (hk : ∀ x ∈ l, OK165 x) (hl : l.length ≤ 1048576) (d : Nat) : ∀ (i : Nat) (a : Int), i + d = l.length → 0 ≤ a → a ≤ 1048576 → ∃ r, Ev (fun k => laws_szNeighbourS.l0 k l a i) r ∧ (r < 0 ∨ 0 ≤ r ∧ ∀ x ∈ l.drop i, x.f5.length ≤ 1048576) := by
  induction d with
  | zero =>
    intro i a h a0 a1
    refine ⟨a, ?_, .inr ⟨a0, ?_⟩⟩
    · apply ev_succ
      simp only [laws_szNeighbourS.l0]
      exact ev_neg (by omega) (Ev.now _)
    · rw [List.drop_eq_nil_of_le (by omega)]
      intro x hx
      simp at hx
  | succ d ih =>
    intro i a h a0 a1
    have hi : i < l.length := by omega
    have hw : wrap64 ((i : Int) + 1) = ((i + 1 : Nat) : Int) := by rw [wrap64_in (by omega) (by omega)]; omega
    obtain ⟨o1, o2, _, _, _, o3⟩ := hk l[i] (List.getElem_mem hi)
    obtain ⟨r, e, hr⟩ := szNeighbour_ev l[i].f0 l[i].f1 l[i].f2 l[i].f3 l[i].f4 l[i].f5 a o1 o2 o3.1 a0 a1
    by_cases c : r < 0
    · refine ⟨-1, ?_, .inl (by omega)⟩
      apply ev_succ
      simp only [laws_szNeighbourS.l0, rd165 l i hi]
      exact ev_pos (by omega) (ev_pos (by omega) (ev_bindc e (ev_pos c (Ev.now _))))
    · obtain ⟨r0, r1, r2⟩ := hr.resolve_left c
      obtain ⟨r', g, hg⟩ := ih (i + 1) r (by omega) r0 r1
      refine ⟨r', ?_, ?_⟩
      · apply ev_succ
        simp only [laws_szNeighbourS.l0, rd165 l i hi, hw]
        exact ev_pos (by omega) (ev_pos (by omega) (ev_bindc e (ev_neg c g)))
      · rcases hg with hg | ⟨g0, g1⟩
        · exact .inl hg
        · refine .inr ⟨g0, ?_⟩
          rw [List.drop_eq_getElem_cons hi]
          intro x hx
          rcases List.mem_cons.mp hx with rfl | hx
          · exact r2
          · exact g1 x hx
theorem szCache_ev (a : Int) (l : List S165) (hl : l.length ≤ maxLen) (hk : ∀ x ∈ l, OK165 x) : ∃ r, Ev (fun k => laws_szCache.f k a l 1048576) r ∧ (r < 0 ∨ l.length ≤ 1048576 ∧ ∀ x ∈ l, x.f5.length ≤ 1048576) := by
  unfold maxLen at hl
  unfold laws_szCache.f laws_szNeighbourS.f
  have hw : wrap64 (1048576 - (l.length : Int)) = 1048576 - (l.length : Int) := wrap64_in (by omega) (by omega)
  simp only [hw]
  by_cases c : 1048576 - (l.length : Int) < 0
  · refine ⟨-1, ?_, .inl (by omega)⟩
    exact Ev.bind (a := -1) (ev_pos c (Ev.now _)) (ev_pos (by omega) (Ev.now _))
  · obtain ⟨r, g, hg⟩ := szNeighbours_l0 l hk (by omega) l.length 0 (1048576 - (l.length : Int)) (by omega) (by omega) (by omega)
    by_cases c2 : r < 0
    · exact ⟨-1, Ev.bind (ev_neg c g) (ev_pos c2 (Ev.now _)), .inl (by omega)⟩
    · refine ⟨r, Ev.bind (ev_neg c g) (ev_neg c2 (Ev.now _)), .inr ⟨by omega, ?_⟩⟩
      simpa using (hg.resolve_left c2).2
theorem toIntS_loop (l : List Int) (hl : l.length ≤ 1048576) (d : Nat) : ∀ (acc : List Int) (i : Nat), acc.length = l.length → acc.take i = l.take i → i + d = l.length → Ev (fun k => laws_toIntS.l0 k l acc i) l := by
  induction d with
  | zero =>
    intro acc i h1 h2 h3
    have e : acc = l := by
      rw [List.take_of_length_le (by omega), List.take_of_length_le (by omega)] at h2
      exact h2
    subst e
    apply ev_succ
    simp only [laws_toIntS.l0]
    exact ev_neg (by omega) (Ev.now _)
  | succ d ih =>
    intro acc i h1 h2 h3
    have hw : wrap64 ((i : Int) + 1) = ((i + 1 : Nat) : Int) := by rw [wrap64_in (by omega) (by omega)]; omega
    apply ev_succ
    simp only [laws_toIntS.l0, hw]
    refine ev_pos (by omega) (ev_pos (by omega) (ev_pos (by omega) ?_))
    refine ih _ (i + 1) (by simp [h1]) ?_ (by omega)
    have hi : i < l.length := by omega
    have hj : i < acc.length := by omega
    rw [List.take_succ_eq_append_getElem (by simpa using hj), List.take_succ_eq_append_getElem hi, rd_at l rfl hi]
    simp [List.take_set_of_le, h2]
theorem toIntS_ev {l : List Int} (hl : l.length ≤ 1048576) : Ev (fun k => laws_toIntS.f k l) l := by
  unfold laws_toIntS.f
  refine ev_pos (by omega) (ev_pos (by omega) ?_)
  exact toIntS_loop l hl l.length _ 0 (by simp) (by simp) (by omega)
theorem toNeighbourS_loop (l : List S165) (hl : l.length ≤ 1048576) (hk : ∀ x ∈ l, x.f5.length ≤ 1048576) (d : Nat) : ∀ (acc : List S127) (i : Nat), acc.length = l.length → acc.take i = (l.map conv).take i → i + d = l.length → Ev (fun k => laws_toNeighbourS.l0 k l acc i) (l.map conv) := by
  induction d with
  | zero =>
    intro acc i h1 h2 h3
    have e : acc = l.map conv := by
      rw [List.take_of_length_le (by omega), List.take_of_length_le (by simp; omega)] at h2
      exact h2
    subst e
    apply ev_succ
    simp only [laws_toNeighbourS.l0]
    exact ev_neg (by omega) (Ev.now _)
  | succ d ih =>
    intro acc i h1 h2 h3
    have hi : i < l.length := by omega
    have hj : i < acc.length := by omega
    have hw : wrap64 ((i : Int) + 1) = ((i + 1 : Nat) : Int) := by rw [wrap64_in (by omega) (by omega)]; omega
    apply ev_succ
    simp only [laws_toNeighbourS.l0, hw, rd165 l i hi]
    refine ev_pos (by omega) (ev_pos (by omega) (Ev.bind (a := (l[i].f0, l[i].f1, l[i].f2, l[i].f3, l[i].f4, l[i].f5)) ?_ (ev_pos (by omega) ?_)))
    · unfold laws_toNeighbour.f
      exact Ev.bind (toIntS_ev (hk _ (List.getElem_mem hi))) (Ev.now _)
    · refine ih _ (i + 1) (by simp [h1]) ?_ (by omega)
      rw [List.take_succ_eq_append_getElem (by simpa using hj), List.take_succ_eq_append_getElem (by simpa using hi)]
      simp [List.take_set_of_le, h2, conv]
theorem toCache_ev (a : Int) {l : List S165} (hl : l.length ≤ 1048576) (hk : ∀ x ∈ l, x.f5.length ≤ 1048576) : Ev (fun k => laws_toCache.f k a l) (a, l.map conv) := by
  unfold laws_toCache.f laws_toNeighbourS.f
  refine Ev.bind (a := l.map conv) (ev_pos (by omega) (ev_pos (by omega) ?_)) (Ev.now _)
  exact toNeighbourS_loop l hl hk l.length _ 0 (by simp) (by simp) (by omega)
theorem eqIntS_loop (l : List Int) (hl : l.length ≤ 1048576) (d : Nat) : ∀ (i : Nat), i + d = l.length → Ev (fun k => laws_eqIntS.l0 k l l i) true := by
  induction d with
  | zero =>
    intro i h
    apply ev_succ
    simp only [laws_eqIntS.l0]
    exact ev_neg (by omega) (Ev.now _)
  | succ d ih =>
    intro i h
    have hw : wrap64 ((i : Int) + 1) = ((i + 1 : Nat) : Int) := by rw [wrap64_in (by omega) (by omega)]; omega
    apply ev_succ
    simp only [laws_eqIntS.l0, hw]
    exact ev_pos (by omega) (ev_pos (by omega) (ev_pos (by omega) (ev_pos trivial (ih (i + 1) (by omega)))))
theorem eqIntS_ev {l : List Int} (hl : l.length ≤ 1048576) : Ev (fun k => laws_eqIntS.f k l l) true := by
  unfold laws_eqIntS.f
  exact ev_pos rfl (eqIntS_loop l hl l.length 0 (by omega))
theorem eqNeighbourS_loop (l : List S127) (hl : l.length ≤ 1048576) (hk : ∀ x ∈ l, x.f5.length ≤ 1048576) (d : Nat) : ∀ (i : Nat), i + d = l.length → Ev (fun k => laws_eqNeighbourS.l0 k l l i) true := by
  induction d with
  | zero =>
    intro i h
    apply ev_succ
    simp only [laws_eqNeighbourS.l0]
    exact ev_neg (by omega) (Ev.now _)
  | succ d ih =>
    intro i h
    have hi : i < l.length := by omega
    have hw : wrap64 ((i : Int) + 1) = ((i + 1 : Nat) : Int) := by rw [wrap64_in (by omega) (by omega)]; omega
    apply ev_succ
    simp only [laws_eqNeighbourS.l0, hw, rd127 l i hi, laws_eqNeighbour.f]
    exact ev_pos (by omega) (ev_pos (by omega) (ev_pos (by omega) (Ev.bind (a := true) (ev_pos trivial (ev_pos trivial (ev_pos trivial (ev_pos trivial (ev_pos trivial (Ev.bind (eqIntS_ev (hk _ (List.getElem_mem hi))) (ev_pos rfl (Ev.now _)))))))) (ev_pos rfl (ih (i + 1) (by omega))))))
theorem eqCache_ev (a : Int) {l : List S127} (hl : l.length ≤ 1048576) (hk : ∀ x ∈ l, x.f5.length ≤ 1048576) : Ev (fun k => laws_eqCache.f k a l a l) true := by
  unfold laws_eqCache.f laws_eqNeighbourS.f
  exact ev_pos rfl (Ev.bind (a := true) (ev_pos rfl (eqNeighbourS_loop l hl hk l.length 0 (by omega))) (ev_pos rfl (Ev.now _)))
/-! ### Is a neighbour right by itself -/
theorem empty_iff (s : ByteArray) : s.toList = [] ↔ s.size = 0 := by
  have h := decide_eq_emptyBytes s
  constructor
  · intro e
    rw [e] at h
    have : s = ByteArray.empty := of_decide_eq_true (h.trans rfl)
    rw [this]
    rfl
  · intro e
    have : s = ByteArray.empty := ByteArray.ext (Array.size_eq_zero_iff.mp e)
    rw [decide_eq_true this] at h
    exact List.isEmpty_iff.mp h.symm
def nb3 (a : Int) (x : S127) : Prop := (x.f2 = 3 → x.f3 = 0) ∧ (x.f2 ≠ 3 → a + 1 ≤ x.f3 ∧ x.f3 ≤ a + 30) ∧ (x.f2 = 1 ∨ x.f2 = 4 → 1 ≤ x.f4 ∧ x.f4 ≤ 3) ∧ (x.f2 ≠ 1 → x.f2 ≠ 4 → x.f4 = 0)
def nb2 (x : S127) : Prop := (x.f2 = 1 → x.f1.size = 0 ∧ 1 ≤ x.f5.length ∧ x.f5.length ≤ 3) ∧ (x.f2 ≠ 1 → x.f1.size = 6 ∧ x.f5.length = 0)
def nb1 (x : S127) : Prop := (x.f0.size = 4 ∨ x.f0.size = 16) ∧ (1 ≤ x.f2 ∧ x.f2 ≤ 4)
instance (a : Int) (x : S127) : Decidable (nb3 a x) := by unfold nb3; infer_instance
instance (x : S127) : Decidable (nb2 x) := by unfold nb2; infer_instance
instance (x : S127) : Decidable (nb1 x) := by unfold nb1; infer_instance
theorem implJ1_ev (a : Int) (x : S127) (a0 : 0 ≤ a) (a1 : a ≤ 1000000) : Ev (fun k => impl_neighbourOK.j1 k a x.f0 x.f1 x.f2 x.f3 x.f4 x.f5) (decide (nb3 a x)) := by
  have w1 : wrap64 (a + 1) = a + 1 := wrap64_in (by omega) (by omega)
  have w2 : wrap64 (a + 30) = a + 30 := wrap64_in (by omega) (by omega)
  have hP : nb3 a x ↔ ((x.f2 = 3 → x.f3 = 0) ∧ (x.f2 ≠ 3 → a + 1 ≤ x.f3 ∧ x.f3 ≤ a + 30) ∧ (x.f2 = 1 ∨ x.f2 = 4 → 1 ≤ x.f4 ∧ x.f4 ≤ 3) ∧ (x.f2 ≠ 1 → x.f2 ≠ 4 → x.f4 = 0)) := Iff.rfl
  apply ev_succ
  simp only [impl_neighbourOK.j1, impl_in, Option.bind_some, w1, w2, decide_eq_true_eq]
  repeat' refine ev_ite (fun _ => ?_) (fun _ => ?_)
  all_goals first
    | exact ev_fin (decide_eq_decide.mpr (by rw [hP]; omega))
    | exact ev_fin (decide_eq_false (by rw [hP]; omega)).symm
    | exact ev_fin (by rw [Bool.eq_iff_iff, beq_iff_eq, decide_eq_true_iff, hP]; omega)
theorem implJ0_ev (a : Int) (x : S127) (a0 : 0 ≤ a) (a1 : a ≤ 1000000) : Ev (fun k => impl_neighbourOK.j0 k a false x.f0 x.f1 x.f2 x.f3 x.f4 x.f5) (decide (nb2 x ∧ nb3 a x)) := by
  have hj := implJ1_ev a x a0 a1
  have he := empty_iff x.f1
  apply ev_succ
  simp only [impl_neighbourOK.j0, impl_in, impl_isLink.f, Option.bind_some, decide_eq_true_eq, Bool.false_eq_true, if_false, beq_iff_eq, he]
  by_cases h : nb2 x
  · simp only [h, true_and]
    unfold nb2 at h
    repeat' refine ev_ite (fun _ => ?_) (fun _ => ?_)
    all_goals first
      | exact hj
      | (exfalso; omega)
  · simp only [h, false_and, decide_false]
    unfold nb2 at h
    repeat' refine ev_ite (fun _ => ?_) (fun _ => ?_)
    all_goals first
      | exact Ev.now _
      | (exfalso; omega)
theorem implNb_ev (a : Int) (x : S127) (a0 : 0 ≤ a) (a1 : a ≤ 1000000) : Ev (fun k => impl_neighbourOK.f k x.f0 x.f1 x.f2 x.f3 x.f4 x.f5 a) (decide (nb1 x ∧ nb2 x ∧ nb3 a x)) := by
  have hj := implJ0_ev a x a0 a1
  have hf : Ev (fun k => impl_neighbourOK.j0 k a true x.f0 x.f1 x.f2 x.f3 x.f4 x.f5) false := by
    apply ev_succ
    simp only [impl_neighbourOK.j0, if_true]
    exact Ev.now _
  have hA : impl_isAddress.f x.f0 = some (decide (x.f0.size = 4 ∨ x.f0.size = 16)) := by
    unfold impl_isAddress.f
    split
    · rw [decide_eq_true (by omega)]
    · congr 1
      rw [Bool.eq_iff_iff, beq_iff_eq, decide_eq_true_iff]
      omega
  unfold impl_neighbourOK.f
  simp only [hA, impl_in, Option.bind_some, decide_eq_true_eq]
  by_cases h1 : x.f0.size = 4 ∨ x.f0.size = 16
  · by_cases h2 : 1 ≤ x.f2 ∧ x.f2 ≤ 4
    · have h : nb1 x := ⟨h1, h2⟩
      simp only [h, true_and, decide_eq_true h2, Bool.not_true]
      exact ev_pos h1 hj
    · have h : ¬ nb1 x := fun h => h2 h.2
      simp only [h, false_and, decide_false, decide_eq_false h2, Bool.not_false]
      exact ev_pos h1 hf
  · have h : ¬ nb1 x := fun h => h1 h.1
    simp only [h, false_and, decide_false]
    exact ev_neg h1 hf
/-! ### The two loops over the neighbours -/
def apart (L : List S127) (i j : Nat) : Prop := ∀ m, j ≤ m → m < i → (rd_T127 L (m : Int)).f0.toList ≠ (rd_T127 L (i : Int)).f0.toList
theorem apart_step {L : List S127} {i j : Nat} (hj : j < i) : apart L i j ↔ (rd_T127 L (j : Int)).f0.toList ≠ (rd_T127 L (i : Int)).f0.toList ∧ apart L i (j + 1) := by
  constructor
  · intro h
    exact ⟨h j (Nat.le_refl _) hj, fun m h1 h2 => h m (by omega) h2⟩
  · rintro ⟨h1, h2⟩ m h3 h4
    by_cases e : m = j
    · subst e
      exact h1
    · exact h2 m (by omega) h4
theorem implL1_ev (L : List S127) (a : Int) (i : Nat) (hi : i < L.length) (hl : L.length ≤ 8) {r : Bool} (hr : Ev (fun k => impl_CacheOK.l0 k L L.length ((i + 1 : Nat) : Int) a L) r) (d : Nat) :
    ∀ j : Nat, j + d = i → (apart L i j → Ev (fun k => impl_CacheOK.l1 k L L.length i (L.take i) i j a L (rd_T127 L i).f0 (rd_T127 L i).f1 (rd_T127 L i).f2 (rd_T127 L i).f3 (rd_T127 L i).f4 (rd_T127 L i).f5) r) ∧ (¬ apart L i j → Ev (fun k => impl_CacheOK.l1 k L L.length i (L.take i) i j a L (rd_T127 L i).f0 (rd_T127 L i).f1 (rd_T127 L i).f2 (rd_T127 L i).f3 (rd_T127 L i).f4 (rd_T127 L i).f5) false) := by
  have hw : wrap64 ((i : Int) + 1) = ((i + 1 : Nat) : Int) := by rw [wrap64_in (by omega) (by omega)]; omega
  have ht : (L.take i).length = i := by simp; omega
  induction d with
  | zero =>
    intro j h
    refine ⟨fun _ => ?_, fun hn => absurd (fun m h1 h2 => by omega) hn⟩
    apply ev_succ
    simp only [impl_CacheOK.l1, hw]
    exact ev_neg (by omega) hr
  | succ d ih =>
    intro j h
    have hj : j < i := by omega
    have hwj : wrap64 ((j : Int) + 1) = ((j + 1 : Nat) : Int) := by rw [wrap64_in (by omega) (by omega)]; omega
    obtain ⟨g1, g2⟩ := ih (j + 1) (by omega)
    have e : rd_T127 (L.take i) (j : Int) = rd_T127 L (j : Int) := by
      rw [rd127 _ j (by omega), rd127 L j (by omega)]
      simp
    rw [apart_step hj]
    refine ⟨fun hu => ?_, fun hn => ?_⟩
    · apply ev_succ
      simp only [impl_CacheOK.l1, hwj, e]
      exact ev_pos (by omega) (ev_pos (by omega) (ev_pos (by omega) (ev_neg hu.1 (g1 hu.2))))
    · apply ev_succ
      simp only [impl_CacheOK.l1, hwj, e]
      refine ev_pos (by omega) (ev_pos (by omega) (ev_pos (by omega) (ev_ite (fun _ => Ev.now _) (fun c => ?_))))
      exact g2 (fun h => hn ⟨c, h⟩)
/-- One step of the program's loop. -/
theorem implStep_ev (L : List S127) (a : Int) (a0 : 0 ≤ a) (a1 : a ≤ 1000000) (i : Nat) (hi : i < L.length) (hl : L.length ≤ 8) {r : Bool} (hr : Ev (fun k => impl_CacheOK.l0 k L L.length ((i + 1 : Nat) : Int) a L) r) (good : Prop) (hg : good ↔ (nb1 (rd_T127 L i) ∧ nb2 (rd_T127 L i) ∧ nb3 a (rd_T127 L i)) ∧ apart L i 0) :
    (good → Ev (fun k => impl_CacheOK.l0 k L L.length i a L) r) ∧ (¬ good → Ev (fun k => impl_CacheOK.l0 k L L.length i a L) false) := by
  have h1 := implNb_ev a (rd_T127 L i) a0 a1
  obtain ⟨g1, g2⟩ := implL1_ev L a i hi hl hr i 0 (by omega)
  have ht : ((L.take i).length : Int) = (i : Int) := by simp; omega
  have hti : ((i : Int)).toNat = i := by omega
  rw [hg]
  refine ⟨fun h => ?_, fun h => ?_⟩
  · rw [decide_eq_true h.1] at h1
    apply ev_succ
    simp only [impl_CacheOK.l0, hti]
    refine ev_pos (by omega) (ev_pos (by omega) (ev_pos (by omega) (Ev.bind h1 (ev_pos rfl (ev_pos (by omega) (ev_some ?_))))))
    simp only [ht]
    exact g1 h.2
  · by_cases c : nb1 (rd_T127 L i) ∧ nb2 (rd_T127 L i) ∧ nb3 a (rd_T127 L i)
    · rw [decide_eq_true c] at h1
      apply ev_succ
      simp only [impl_CacheOK.l0, hti]
      refine ev_pos (by omega) (ev_pos (by omega) (ev_pos (by omega) (Ev.bind h1 (ev_pos rfl (ev_pos (by omega) (ev_some ?_))))))
      simp only [ht]
      exact g2 (fun u => h ⟨c, u⟩)
    · rw [decide_eq_false c] at h1
      apply ev_succ
      simp only [impl_CacheOK.l0]
      exact ev_pos (by omega) (ev_pos (by omega) (ev_pos (by omega) (Ev.bind h1 (ev_neg (by simp) (Ev.now _)))))
/-- The reference's search. -/
theorem specFind_ev (L : List S127) (a : Int) (i : Nat) (hi : i < L.length) (hl : L.length ≤ 8) (d : Nat) : ∀ j : Nat, j + d = i → ∃ t : Int, Ev (fun k => spec_l05Find.l0 k (rd_T127 L i).f0 j a L) t ∧ (t = i ↔ apart L i j) := by
  induction d with
  | zero =>
    intro j h
    have e : j = i := by omega
    subst e
    refine ⟨j, ?_, ⟨fun _ m h1 h2 => by omega, fun _ => rfl⟩⟩
    apply ev_succ
    simp only [spec_l05Find.l0]
    exact ev_pos (by omega) (ev_pos (by omega) (ev_pos trivial (Ev.now _)))
  | succ d ih =>
    intro j h
    have hj : j < i := by omega
    have hwj : wrap64 ((j : Int) + 1) = ((j + 1 : Nat) : Int) := by rw [wrap64_in (by omega) (by omega)]; omega
    obtain ⟨t, g, ht⟩ := ih (j + 1) (by omega)
    rw [apart_step hj]
    by_cases c : (rd_T127 L (j : Int)).f0.toList = (rd_T127 L (i : Int)).f0.toList
    · refine ⟨j, ?_, ⟨fun h => by omega, fun h => absurd c h.1⟩⟩
      apply ev_succ
      simp only [spec_l05Find.l0, hwj]
      exact ev_pos (by omega) (ev_pos (by omega) (ev_pos c (Ev.now _)))
    · refine ⟨t, ?_, ⟨fun h => ⟨c, ht.mp h⟩, fun h => ht.mpr h.2⟩⟩
      apply ev_succ
      simp only [spec_l05Find.l0, hwj]
      exact ev_pos (by omega) (ev_pos (by omega) (ev_neg c g))
/-! ### The reference's step -/
theorem bne_dec1 (p : Prop) [Decidable p] : (true != decide p) = true ↔ ¬ p := by
  by_cases h : p <;> simp [h]
theorem bne_dec2 (x n : Int) (p : Prop) [Decidable p] : ((x == n) != decide p) = true ↔ ¬ (x = n ↔ p) := by
  by_cases h : p <;> by_cases e : x = n <;> simp [h, e]
theorem bne_dec3 (x n : Int) (s : ByteArray) : ((x == n) != (s.toList == ([] : List UInt8))) = true ↔ ¬ (x = n ↔ s.size = 0) := by
  have he : (s.toList == ([] : List UInt8)) = decide (s.size = 0) := by rw [Bool.eq_iff_iff, beq_iff_eq, decide_eq_true_iff]; exact empty_iff s
  rw [he]
  exact bne_dec2 x n _
set_option linter.unusedSectionVars false
section
variable (L : List S127) (a : Int) (a0 : 0 ≤ a) (a1 : a ≤ 1000000) (i : Nat) (hi : i < L.length) (hl : L.length ≤ 8) {r : Bool} (hr : Ev (fun k => spec_CacheOK.l0 k ((i + 1 : Nat) : Int) a L) r) (x : S127)
include a0 a1 hi hl hr
theorem specJ3_ev (h4 : 0 ≤ x.f4 ∧ x.f4 ≤ 3) (h2 : 1 ≤ x.f2 ∧ x.f2 ≤ 4) : (nb3 a x → Ev (fun k => spec_CacheOK.j3 k i false a L x.f0 x.f1 x.f2 x.f3 x.f4 x.f5) r) ∧ (¬ nb3 a x → Ev (fun k => spec_CacheOK.j3 k i false a L x.f0 x.f1 x.f2 x.f3 x.f4 x.f5) false) := by
  have w1 : wrap64 (a + 1) = a + 1 := wrap64_in (by omega) (by omega)
  have w2 : wrap64 (a + 30) = a + 30 := wrap64_in (by omega) (by omega)
  have hw : wrap64 ((i : Int) + 1) = ((i + 1 : Nat) : Int) := by rw [wrap64_in (by omega) (by omega)]; omega
  refine ⟨fun h => ?_, fun h => ?_⟩
  · unfold nb3 at h
    apply ev_succ
    simp only [spec_CacheOK.j3, spec_in, Option.bind_some, w1, w2, hw, bne_dec1, bne_dec2, decide_eq_true_eq, Bool.false_eq_true, if_false]
    repeat' refine ev_ite (fun _ => ?_) (fun _ => ?_)
    all_goals first
      | exact hr
      | (exfalso; omega)
  · unfold nb3 at h
    apply ev_succ
    simp only [spec_CacheOK.j3, spec_in, Option.bind_some, w1, w2, hw, bne_dec1, bne_dec2, decide_eq_true_eq, Bool.false_eq_true, if_false]
    repeat' refine ev_ite (fun _ => ?_) (fun _ => ?_)
    all_goals first
      | exact Ev.now _
      | (exfalso; omega)
theorem specJ3t_ev : Ev (fun k => spec_CacheOK.j3 k i true a L x.f0 x.f1 x.f2 x.f3 x.f4 x.f5) false := by
  apply ev_succ
  simp only [spec_CacheOK.j3, if_true]
  exact Ev.now _
theorem specJ2_ev (h4 : 0 ≤ x.f4 ∧ x.f4 ≤ 3) (h2 : 1 ≤ x.f2 ∧ x.f2 ≤ 4) (h5 : x.f5.length ≤ 3) : (nb2 x ∧ nb3 a x → Ev (fun k => spec_CacheOK.j2 k i false a L x.f0 x.f1 x.f2 x.f3 x.f4 x.f5) r) ∧ (¬ (nb2 x ∧ nb3 a x) → Ev (fun k => spec_CacheOK.j2 k i false a L x.f0 x.f1 x.f2 x.f3 x.f4 x.f5) false) := by
  obtain ⟨g1, g2⟩ := specJ3_ev L a a0 a1 i hi hl hr x h4 h2
  have gt := specJ3t_ev L a a0 a1 i hi hl hr x
  have he := empty_iff x.f1
  have hb1 : x.f5.length = 0 → ((x.f5.length : Int) == 0) = true := fun e => by simp [e]
  have hb0 : ¬ x.f5.length = 0 → ((x.f5.length : Int) == 0) = false := fun e => beq_eq_false_iff_ne.mpr (by omega)
  refine ⟨fun h => ?_, fun h => ?_⟩
  · have g := g1 h.2
    have h := h.1
    unfold nb2 at h
    apply ev_succ
    simp only [spec_CacheOK.j2, bne_dec3, he, Bool.false_eq_true, if_false]
    repeat' refine ev_ite (fun _ => ?_) (fun _ => ?_)
    all_goals first
      | exact g
      | (rw [hb0 (by omega)]; exact g)
      | (exfalso; omega)
  · by_cases h3 : nb3 a x
    · have hn : ¬ nb2 x := fun h' => h ⟨h', h3⟩
      unfold nb2 at hn
      apply ev_succ
      simp only [spec_CacheOK.j2, bne_dec3, he, Bool.false_eq_true, if_false]
      repeat' refine ev_ite (fun _ => ?_) (fun _ => ?_)
      all_goals first
        | exact gt
        | (rw [hb1 (by omega)]; exact gt)
        | (exfalso; omega)
    · have g := g2 h3
      by_cases hz : x.f5.length = 0
      · apply ev_succ
        simp only [spec_CacheOK.j2, bne_dec3, he, Bool.false_eq_true, if_false, hb1 hz]
        repeat' refine ev_ite (fun _ => ?_) (fun _ => ?_)
        all_goals first
          | exact gt
          | exact g
      · apply ev_succ
        simp only [spec_CacheOK.j2, bne_dec3, he, Bool.false_eq_true, if_false, hb0 hz]
        repeat' refine ev_ite (fun _ => ?_) (fun _ => ?_)
        all_goals first
          | exact gt
          | exact g
theorem specJ2t_ev : Ev (fun k => spec_CacheOK.j2 k i true a L x.f0 x.f1 x.f2 x.f3 x.f4 x.f5) false := by
  apply ev_succ
  simp only [spec_CacheOK.j2, if_true]
  exact Ev.now _
theorem specStep_ev (good : Prop) (hg : good ↔ (nb1 (rd_T127 L i) ∧ nb2 (rd_T127 L i) ∧ nb3 a (rd_T127 L i)) ∧ apart L i 0) :
    (good → Ev (fun k => spec_CacheOK.l0 k i a L) r) ∧ (¬ good → Ev (fun k => spec_CacheOK.l0 k i a L) false) := by
  obtain ⟨t, gf, ht⟩ := specFind_ev L a i hi hl i 0 (by omega)
  have gf' : Ev (fun k => spec_l05Find.f k a L (rd_T127 L i).f0) t := gf
  have gt := specJ2t_ev L a a0 a1 i hi hl hr (rd_T127 L i)
  have gj := specJ2_ev L a a0 a1 i hi hl hr (rd_T127 L i)
  rw [hg]
  have inner : ∀ v : Bool, (v = r ∧ (apart L i 0 ∧ (1 ≤ (rd_T127 L i).f2 ∧ (rd_T127 L i).f2 ≤ 4) ∧ nb2 (rd_T127 L i) ∧ nb3 a (rd_T127 L i))) ∨ (v = false ∧ ¬ (apart L i 0 ∧ (1 ≤ (rd_T127 L i).f2 ∧ (rd_T127 L i).f2 ≤ 4) ∧ nb2 (rd_T127 L i) ∧ nb3 a (rd_T127 L i))) → Ev (fun k => if t = (i : Int) then (if 1 ≤ (rd_T127 L i).f2 ∧ (rd_T127 L i).f2 ≤ 4 then (if ((rd_T127 L i).f5.length : Int) > 3 then spec_CacheOK.j2 k i true a L (rd_T127 L i).f0 (rd_T127 L i).f1 (rd_T127 L i).f2 (rd_T127 L i).f3 (rd_T127 L i).f4 (rd_T127 L i).f5 else spec_CacheOK.j2 k i (!decide (0 ≤ (rd_T127 L i).f4 ∧ (rd_T127 L i).f4 ≤ 3)) a L (rd_T127 L i).f0 (rd_T127 L i).f1 (rd_T127 L i).f2 (rd_T127 L i).f3 (rd_T127 L i).f4 (rd_T127 L i).f5) else spec_CacheOK.j2 k i true a L (rd_T127 L i).f0 (rd_T127 L i).f1 (rd_T127 L i).f2 (rd_T127 L i).f3 (rd_T127 L i).f4 (rd_T127 L i).f5) else spec_CacheOK.j2 k i true a L (rd_T127 L i).f0 (rd_T127 L i).f1 (rd_T127 L i).f2 (rd_T127 L i).f3 (rd_T127 L i).f4 (rd_T127 L i).f5) v := by
    intro v hv
    rcases hv with ⟨rfl, h1, h2, h3, h4⟩ | ⟨rfl, hn⟩
    · have q3 := h3
      have q4 := h4
      unfold nb2 at q3
      unfold nb3 at q4
      have c4 : 0 ≤ (rd_T127 L i).f4 ∧ (rd_T127 L i).f4 ≤ 3 := by omega
      have c3 : (rd_T127 L i).f5.length ≤ 3 := by omega
      rw [decide_eq_true c4]
      exact ev_pos (ht.mpr h1) (ev_pos h2 (ev_neg (by omega) ((gj c4 h2 c3).1 ⟨h3, h4⟩)))
    · refine ev_ite (fun h1 => ev_ite (fun h2 => ev_ite (fun _ => gt) (fun h3 => ?_)) (fun _ => gt)) (fun _ => gt)
      by_cases c4 : 0 ≤ (rd_T127 L i).f4 ∧ (rd_T127 L i).f4 ≤ 3
      · rw [decide_eq_true c4]
        exact (gj c4 h2 (by omega)).2 (fun h => hn ⟨ht.mp h1, h2, h.1, h.2⟩)
      · rw [decide_eq_false c4]
        exact gt
  refine ⟨fun h => ?_, fun h => ?_⟩
  · have g := inner r (.inl ⟨rfl, h.2, h.1.1.2, h.1.2.1, h.1.2.2⟩)
    have h0 := h.1.1.1
    apply ev_succ
    simp only [spec_CacheOK.l0, spec_in, Option.bind_some, decide_eq_true_eq]
    exact ev_pos (by omega) (ev_pos (by omega) (ev_ite (fun _ => Ev.bind gf' g) (fun _ => ev_pos (by omega) (Ev.bind gf' g))))
  · apply ev_succ
    simp only [spec_CacheOK.l0, spec_in, Option.bind_some, decide_eq_true_eq]
    refine ev_pos (by omega) (ev_pos (by omega) (ev_ite (fun c => Ev.bind gf' (inner false (.inr ⟨rfl, fun p => h ⟨⟨⟨.inl (by omega), p.2.1⟩, p.2.2⟩, p.1⟩⟩))) (fun _ => ev_ite (fun c => Ev.bind gf' (inner false (.inr ⟨rfl, fun p => h ⟨⟨⟨.inr (by omega), p.2.1⟩, p.2.2⟩, p.1⟩⟩))) (fun _ => gt))))
end
theorem both (L : List S127) (a : Int) (a0 : 0 ≤ a) (a1 : a ≤ 1000000) (hl : L.length ≤ 8) (d : Nat) : ∀ i : Nat, i + d = L.length → ∃ r, Ev (fun k => spec_CacheOK.l0 k i a L) r ∧ Ev (fun k => impl_CacheOK.l0 k L L.length i a L) r := by
  induction d with
  | zero =>
    intro i h
    refine ⟨true, ?_, ?_⟩
    · apply ev_succ
      simp only [spec_CacheOK.l0]
      exact ev_neg (by omega) (Ev.now _)
    · apply ev_succ
      simp only [impl_CacheOK.l0]
      exact ev_neg (by omega) (Ev.now _)
  | succ d ih =>
    intro i h
    obtain ⟨r, g1, g2⟩ := ih (i + 1) (by omega)
    have s1 := specStep_ev L a a0 a1 i (by omega) hl g1 _ Iff.rfl
    have s2 := implStep_ev L a a0 a1 i (by omega) hl g2 _ Iff.rfl
    by_cases c : (nb1 (rd_T127 L i) ∧ nb2 (rd_T127 L i) ∧ nb3 a (rd_T127 L i)) ∧ apart L i 0
    · exact ⟨r, s1.1 c, s2.1 c⟩
    · exact ⟨false, s1.2 c, s2.2 c⟩
theorem cacheOK_ev (L : List S127) (a : Int) : ∃ r, Ev (fun k => spec_CacheOK.f k a L) r ∧ Ev (fun k => impl_CacheOK.f k a L) r := by
  have f1 : Ev (fun k => spec_CacheOK.j0 k true a L) false := by
    apply ev_succ
    simp only [spec_CacheOK.j0, if_true]
    exact Ev.now _
  have f2 : Ev (fun k => impl_CacheOK.j0 k true a L) false := by
    apply ev_succ
    simp only [impl_CacheOK.j0, if_true]
    exact Ev.now _
  unfold spec_CacheOK.f impl_CacheOK.f
  simp only [spec_in, impl_in, Option.bind_some, decide_eq_true_eq]
  by_cases c : 0 ≤ a ∧ a ≤ 1000000
  · by_cases c2 : (L.length : Int) > 8
    · simp only [decide_eq_true c2]
      exact ⟨false, ev_pos c f1, ev_pos c f2⟩
    · simp only [decide_eq_false c2]
      obtain ⟨r, g1, g2⟩ := both L a c.1 c.2 (by omega) L.length 0 (by omega)
      refine ⟨r, ev_pos c ?_, ev_pos c ?_⟩
      · apply ev_succ
        simp only [spec_CacheOK.j0, Bool.false_eq_true, if_false]
        exact g1
      · apply ev_succ
        simp only [impl_CacheOK.j0, Bool.false_eq_true, if_false]
        exact g2
  · exact ⟨false, ev_neg c f1, ev_neg c f2⟩

theorem FnExactCacheOK : SaysFnExactCacheOK.Says := by
  intro a l _ h
  refine Ev.rounds (g := fun k => laws_FnExactCacheOK.f k a l) ?_
  unfold laws_FnExactCacheOK.f
  obtain ⟨z, gz, hz⟩ := szCache_ev a l h.1 h.2
  refine Ev.bind gz (ev_ite (fun _ => Ev.now _) (fun hn => ?_))
  obtain ⟨hl, hk⟩ := hz.resolve_left hn
  have gc := toCache_ev a hl hk
  obtain ⟨r, g1, g2⟩ := cacheOK_ev (l.map conv) a
  refine Ev.bind gc (Ev.bind g1 (Ev.bind gc (Ev.bind g2 (ev_neg (by simp) (Ev.bind gc (Ev.bind (eqCache_ev a (by simpa using hl) ?_) (ev_pos rfl (Ev.now _))))))))
  intro x hx
  obtain ⟨y, hy, rfl⟩ := List.mem_map.mp hx
  exact hk y hy

end Go.Proofs.Ytblmghlopolknaa.Pure
