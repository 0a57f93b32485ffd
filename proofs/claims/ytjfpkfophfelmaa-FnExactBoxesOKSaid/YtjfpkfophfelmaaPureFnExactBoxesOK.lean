/- The program's BoxesOK answers what the reference's answers, for every row of boxes; no condition. -/
import Derived.Test.YtjfpkfophfelmaaSaysFnExactBoxesOK
import Derived.Test.YtjfpkfophfelmaaAid
namespace Go.Proofs.Ytjfpkfophfelmaa.Pure
open Go.RowKit Go.Proofs.Ytjfpkfophfelmaa.QFnExactBoxesOK Go.Proofs.YtjfpkfophfelmaaV.PrintWords Go.Proofs.YtjfpkfophfelmaaV.PrintLast Go.Proofs.Ytjfpkfophfelmaa.Aid Go.Proofs.Ytjfpkfophfelmaa.SaysFnExactBoxesOK

/-! ### Boxes of pieces: sizes, copies, comparing -/
def convP (x : S170) : S143 := ⟨x.f0, x.f1, x.f2⟩
def convB (x : S137) : S140 := ⟨x.f0, x.f1, x.f2, x.f3, x.f4, x.f5.map convP⟩
def Small (l : List S170) : Prop := l.length ≤ 1048576 ∧ ∀ x ∈ l, x.f2.length ≤ 1048576
def SmallB (l : List S140) : Prop := l.length ≤ 1048576 ∧ ∀ x ∈ l, x.f5.length ≤ 1048576 ∧ ∀ p ∈ x.f5, p.f2.length ≤ 1048576
theorem rd170 (l : List S170) (i : Nat) (h : i < l.length) : rd_T170 l (i : Int) = l[i] := by
  simp [rd_T170, List.getD_eq_getElem?_getD, List.getElem?_eq_getElem h]
theorem rd143 (l : List S143) (i : Nat) (h : i < l.length) : rd_T143 l (i : Int) = l[i] := by
  simp [rd_T143, List.getD_eq_getElem?_getD, List.getElem?_eq_getElem h]
theorem rd137 (l : List S137) (i : Nat) (h : i < l.length) : rd_T137 l (i : Int) = l[i] := by
  simp [rd_T137, List.getD_eq_getElem?_getD, List.getElem?_eq_getElem h]
theorem rd140 (l : List S140) (i : Nat) (h : i < l.length) : rd_T140 l (i : Int) = l[i] := by
  simp [rd_T140, List.getD_eq_getElem?_getD, List.getElem?_eq_getElem h]
theorem szByteS_eq (l : List Int) (a : Int) : laws_szByteS.f l a = some (if wrap64 (a - (l.length : Int)) < 0 then -1 else wrap64 (a - (l.length : Int))) := by
  unfold laws_szByteS.f
  split <;> rfl
theorem szPiece_ev (x : S170) (a : Int) (h3 : x.f2.length ≤ maxLen) (a0 : 0 ≤ a) (a1 : a ≤ 1048576) :
    ∃ r, laws_szPiece.f x.f0 x.f1 x.f2 a = some r ∧ (r < 0 ∨ 0 ≤ r ∧ r ≤ 1048576 ∧ x.f2.length ≤ 1048576) := by
  unfold maxLen at h3
  unfold laws_szPiece.f
  rw [szByteS_eq, wrap64_in (n := a - (x.f2.length : Int)) (by omega) (by omega)]
  simp only [Option.bind_some]
  by_cases c : a - (x.f2.length : Int) < 0
  · rw [if_pos c]
    exact ⟨-1, rfl, .inl (by omega)⟩
  · rw [if_neg c, if_neg c]
    exact ⟨_, rfl, .inr (by omega)⟩
theorem szPieceS_l0 (l : List S170) (hk : ∀ x ∈ l, x.f2.length ≤ maxLen) (hl : l.length ≤ 1048576) (d : Nat) : ∀ (i : Nat) (a : Int), i + d = l.length → 0 ≤ a → a ≤ 1048576 → ∃ r, Ev (fun k => laws_szPieceS.l0 k l a i) r ∧ (r < 0 ∨ (0 ≤ r ∧ r ≤ 1048576) ∧ ∀ x ∈ l.drop i, x.f2.length ≤ 1048576) := by
  induction d with
  | zero =>
    intro i a h a0 a1
    refine ⟨a, ?_, .inr ⟨⟨a0, a1⟩, ?_⟩⟩
    · apply ev_succ
      simp only [laws_szPieceS.l0]
      exact ev_neg (by omega) (Ev.now _)
    · rw [List.drop_eq_nil_of_le (by omega)]
      intro x hx
      simp at hx
  | succ d ih =>
    intro i a h a0 a1
    have hi : i < l.length := by omega
    have hw : wrap64 ((i : Int) + 1) = ((i + 1 : Nat) : Int) := by rw [wrap64_in (by omega) (by omega)]; omega
    obtain ⟨r, e, hr⟩ := szPiece_ev l[i] a (hk l[i] (List.getElem_mem hi)) a0 a1
    by_cases c : r < 0
    · refine ⟨-1, ?_, .inl (by omega)⟩
      apply ev_succ
      simp only [laws_szPieceS.l0, rd170 l i hi]
      exact ev_pos (by omega) (ev_pos (by omega) (ev_bindc e (ev_pos c (Ev.now _))))
    · obtain ⟨r0, r1, r2⟩ := hr.resolve_left c
      obtain ⟨r', g, hg⟩ := ih (i + 1) r (by omega) r0 r1
      refine ⟨r', ?_, ?_⟩
      · apply ev_succ
        simp only [laws_szPieceS.l0, rd170 l i hi, hw]
        exact ev_pos (by omega) (ev_pos (by omega) (ev_bindc e (ev_neg c g)))
      · rcases hg with hg | ⟨g0, g1⟩
        · exact .inl hg
        · refine .inr ⟨g0, ?_⟩
          rw [List.drop_eq_getElem_cons hi]
          intro x hx
          rcases List.mem_cons.mp hx with rfl | hx
          · exact r2
          · exact g1 x hx
theorem szPieceS_ev (l : List S170) (hk : ∀ x ∈ l, x.f2.length ≤ maxLen) (hl : l.length ≤ maxLen) (a : Int) (a0 : 0 ≤ a) (a1 : a ≤ 1048576) : ∃ r, Ev (fun k => laws_szPieceS.f k l a) r ∧ (r < 0 ∨ (0 ≤ r ∧ r ≤ 1048576) ∧ Small l) := by
  unfold maxLen at hl
  unfold laws_szPieceS.f
  have hw : wrap64 (a - (l.length : Int)) = a - (l.length : Int) := wrap64_in (by omega) (by omega)
  simp only [hw]
  by_cases c : a - (l.length : Int) < 0
  · exact ⟨-1, ev_pos c (Ev.now _), .inl (by omega)⟩
  · obtain ⟨r, g, hg⟩ := szPieceS_l0 l hk (by omega) l.length 0 (a - (l.length : Int)) (by omega) (by omega) (by omega)
    refine ⟨r, ev_neg c g, hg.imp id fun h => ⟨h.1, by omega, by simpa using h.2⟩⟩
theorem szBox_ev (x : S137) (a : Int) (h : OK137 x) (a0 : 0 ≤ a) (a1 : a ≤ 1048576) :
    ∃ r, Ev (fun k => laws_szBox.f k x.f0 x.f1 x.f2 x.f3 x.f4 x.f5 a) r ∧ (r < 0 ∨ (0 ≤ r ∧ r ≤ 1048576) ∧ Small x.f5) := by
  obtain ⟨h1, h2, _, _, _, h3, h4⟩ := h
  unfold maxLen at h1 h2
  unfold laws_szBox.f
  simp only [wrap64_in (n := a - (x.f0.size : Int)) (by omega) (by omega)]
  by_cases c1 : a - (x.f0.size : Int) < 0
  · exact ⟨-1, ev_pos c1 (Ev.now _), .inl (by omega)⟩
  · simp only [wrap64_in (n := a - (x.f0.size : Int) - (x.f1.size : Int)) (by omega) (by omega)]
    by_cases c2 : a - (x.f0.size : Int) - (x.f1.size : Int) < 0
    · exact ⟨-1, ev_neg c1 (ev_pos c2 (Ev.now _)), .inl (by omega)⟩
    · obtain ⟨r, g, hg⟩ := szPieceS_ev x.f5 (fun y hy => (h4 y hy).2.2.1) h3 (a - (x.f0.size : Int) - (x.f1.size : Int)) (by omega) (by omega)
      by_cases c3 : r < 0
      · exact ⟨-1, ev_neg c1 (ev_neg c2 (Ev.bind g (ev_pos c3 (Ev.now _)))), .inl (by omega)⟩
      · exact ⟨r, ev_neg c1 (ev_neg c2 (Ev.bind g (ev_neg c3 (Ev.now _)))), hg⟩
theorem szBoxS_l0 (l : List S137) (hk : ∀ x ∈ l, OK137 x) (hl : l.length ≤ 1048576) (d : Nat) : ∀ (i : Nat) (a : Int), i + d = l.length → 0 ≤ a → a ≤ 1048576 → ∃ r, Ev (fun k => laws_szBoxS.l0 k l a i) r ∧ (r < 0 ∨ (0 ≤ r ∧ r ≤ 1048576) ∧ ∀ x ∈ l.drop i, Small x.f5) := by
  induction d with
  | zero =>
    intro i a h a0 a1
    refine ⟨a, ?_, .inr ⟨⟨a0, a1⟩, ?_⟩⟩
    · apply ev_succ
      simp only [laws_szBoxS.l0]
      exact ev_neg (by omega) (Ev.now _)
    · rw [List.drop_eq_nil_of_le (by omega)]
      intro x hx
      simp at hx
  | succ d ih =>
    intro i a h a0 a1
    have hi : i < l.length := by omega
    have hw : wrap64 ((i : Int) + 1) = ((i + 1 : Nat) : Int) := by rw [wrap64_in (by omega) (by omega)]; omega
    obtain ⟨r, e, hr⟩ := szBox_ev l[i] a (hk l[i] (List.getElem_mem hi)) a0 a1
    by_cases c : r < 0
    · refine ⟨-1, ?_, .inl (by omega)⟩
      apply ev_succ
      simp only [laws_szBoxS.l0, rd137 l i hi]
      exact ev_pos (by omega) (ev_pos (by omega) (Ev.bind e (ev_pos c (Ev.now _))))
    · obtain ⟨⟨r0, r1⟩, r2⟩ := hr.resolve_left c
      obtain ⟨r', g, hg⟩ := ih (i + 1) r (by omega) r0 r1
      refine ⟨r', ?_, ?_⟩
      · apply ev_succ
        simp only [laws_szBoxS.l0, rd137 l i hi, hw]
        exact ev_pos (by omega) (ev_pos (by omega) (Ev.bind e (ev_neg c g)))
      · rcases hg with hg | ⟨g0, g1⟩
        · exact .inl hg
        · refine .inr ⟨g0, ?_⟩
          rw [List.drop_eq_getElem_cons hi]
          intro x hx
          rcases List.mem_cons.mp hx with rfl | hx
          · exact r2
          · exact g1 x hx
theorem szBoxS_ev (l : List S137) (hk : ∀ x ∈ l, OK137 x) (hl : l.length ≤ maxLen) : ∃ r, Ev (fun k => laws_szBoxS.f k l 1048576) r ∧ (r < 0 ∨ l.length ≤ 1048576 ∧ ∀ x ∈ l, Small x.f5) := by
  unfold maxLen at hl
  unfold laws_szBoxS.f
  have hw : wrap64 (1048576 - (l.length : Int)) = 1048576 - (l.length : Int) := wrap64_in (by omega) (by omega)
  simp only [hw]
  by_cases c : 1048576 - (l.length : Int) < 0
  · exact ⟨-1, ev_pos c (Ev.now _), .inl (by omega)⟩
  · obtain ⟨r, g, hg⟩ := szBoxS_l0 l hk (by omega) l.length 0 (1048576 - (l.length : Int)) (by omega) (by omega) (by omega)
    refine ⟨r, ev_neg c g, hg.imp id fun h => ⟨by omega, by simpa using h.2⟩⟩
theorem toByteS_loop (l : List Int) (hl : l.length ≤ 1048576) (d : Nat) : ∀ (acc : List Int) (i : Nat), acc.length = l.length → acc.take i = l.take i → i + d = l.length → Ev (fun k => laws_toByteS.l0 k l acc i) l := by
  induction d with
  | zero =>
    intro acc i h1 h2 h3
    have e : acc = l := by
      rw [List.take_of_length_le (by omega), List.take_of_length_le (by omega)] at h2
      exact h2
    subst e
    apply ev_succ
    simp only [laws_toByteS.l0]
    exact ev_neg (by omega) (Ev.now _)
  | succ d ih =>
    intro acc i h1 h2 h3
    have hw : wrap64 ((i : Int) + 1) = ((i + 1 : Nat) : Int) := by rw [wrap64_in (by omega) (by omega)]; omega
    apply ev_succ
    simp only [laws_toByteS.l0, hw]
    refine ev_pos (by omega) (ev_pos (by omega) (ev_pos (by omega) ?_))
    refine ih _ (i + 1) (by simp [h1]) ?_ (by omega)
    have hi : i < l.length := by omega
    have hj : i < acc.length := by omega
    rw [List.take_succ_eq_append_getElem (by simpa using hj), List.take_succ_eq_append_getElem hi, rd_at l rfl hi]
    simp [List.take_set_of_le, h2]
theorem toByteS_ev {l : List Int} (hl : l.length ≤ 1048576) : Ev (fun k => laws_toByteS.f k l) l := by
  unfold laws_toByteS.f
  refine ev_pos (by omega) (ev_pos (by omega) ?_)
  exact toByteS_loop l hl l.length _ 0 (by simp) (by simp) (by omega)
theorem toPieceS_loop (l : List S170) (hl : Small l) (d : Nat) : ∀ (acc : List S143) (i : Nat), acc.length = l.length → acc.take i = (l.map convP).take i → i + d = l.length → Ev (fun k => laws_toPieceS.l0 k l acc i) (l.map convP) := by
  have hl0 := hl.1
  induction d with
  | zero =>
    intro acc i h1 h2 h3
    have e : acc = l.map convP := by
      rw [List.take_of_length_le (by omega), List.take_of_length_le (by simp; omega)] at h2
      exact h2
    subst e
    apply ev_succ
    simp only [laws_toPieceS.l0]
    exact ev_neg (by omega) (Ev.now _)
  | succ d ih =>
    intro acc i h1 h2 h3
    have hi : i < l.length := by omega
    have hj : i < acc.length := by omega
    have hw : wrap64 ((i : Int) + 1) = ((i + 1 : Nat) : Int) := by rw [wrap64_in (by omega) (by omega)]; omega
    apply ev_succ
    simp only [laws_toPieceS.l0, hw, rd170 l i hi]
    refine ev_pos (by omega) (ev_pos (by omega) (Ev.bind (a := (l[i].f0, l[i].f1, l[i].f2)) ?_ (ev_pos (by omega) ?_)))
    · unfold laws_toPiece.f
      exact Ev.bind (toByteS_ev (hl.2 _ (List.getElem_mem hi))) (Ev.now _)
    · refine ih _ (i + 1) (by simp [h1]) ?_ (by omega)
      rw [List.take_succ_eq_append_getElem (by simpa using hj), List.take_succ_eq_append_getElem (by simpa using hi)]
      simp [List.take_set_of_le, h2, convP]
theorem toPieceS_ev {l : List S170} (hl : Small l) : Ev (fun k => laws_toPieceS.f k l) (l.map convP) := by
  have hl0 := hl.1
  unfold laws_toPieceS.f
  refine ev_pos (by omega) (ev_pos (by omega) ?_)
  exact toPieceS_loop l hl l.length _ 0 (by simp) (by simp) (by omega)
theorem toBoxS_loop (l : List S137) (hl : l.length ≤ 1048576) (hk : ∀ x ∈ l, Small x.f5) (d : Nat) : ∀ (acc : List S140) (i : Nat), acc.length = l.length → acc.take i = (l.map convB).take i → i + d = l.length → Ev (fun k => laws_toBoxS.l0 k l acc i) (l.map convB) := by
  induction d with
  | zero =>
    intro acc i h1 h2 h3
    have e : acc = l.map convB := by
      rw [List.take_of_length_le (by omega), List.take_of_length_le (by simp; omega)] at h2
      exact h2
    subst e
    apply ev_succ
    simp only [laws_toBoxS.l0]
    exact ev_neg (by omega) (Ev.now _)
  | succ d ih =>
    intro acc i h1 h2 h3
    have hi : i < l.length := by omega
    have hj : i < acc.length := by omega
    have hw : wrap64 ((i : Int) + 1) = ((i + 1 : Nat) : Int) := by rw [wrap64_in (by omega) (by omega)]; omega
    apply ev_succ
    simp only [laws_toBoxS.l0, hw, rd137 l i hi]
    refine ev_pos (by omega) (ev_pos (by omega) (Ev.bind (a := (l[i].f0, l[i].f1, l[i].f2, l[i].f3, l[i].f4, l[i].f5.map convP)) ?_ (ev_pos (by omega) ?_)))
    · unfold laws_toBox.f
      exact Ev.bind (toPieceS_ev (hk _ (List.getElem_mem hi))) (Ev.now _)
    · refine ih _ (i + 1) (by simp [h1]) ?_ (by omega)
      rw [List.take_succ_eq_append_getElem (by simpa using hj), List.take_succ_eq_append_getElem (by simpa using hi)]
      simp [List.take_set_of_le, h2, convB]
theorem toBoxS_ev {l : List S137} (hl : l.length ≤ 1048576) (hk : ∀ x ∈ l, Small x.f5) : Ev (fun k => laws_toBoxS.f k l) (l.map convB) := by
  unfold laws_toBoxS.f
  refine ev_pos (by omega) (ev_pos (by omega) ?_)
  exact toBoxS_loop l hl hk l.length _ 0 (by simp) (by simp) (by omega)
theorem smallB_map {l : List S137} (hl : l.length ≤ 1048576) (hk : ∀ x ∈ l, Small x.f5) : SmallB (l.map convB) := by
  refine ⟨by simpa using hl, fun x hx => ?_⟩
  obtain ⟨y, hy, rfl⟩ := List.mem_map.mp hx
  refine ⟨by simpa [convB] using (hk y hy).1, fun p hp => ?_⟩
  obtain ⟨q, hq, rfl⟩ := List.mem_map.mp hp
  exact (hk y hy).2 q hq
theorem eqByteS_loop (l : List Int) (hl : l.length ≤ 1048576) (d : Nat) : ∀ (i : Nat), i + d = l.length → Ev (fun k => laws_eqByteS.l0 k l l i) true := by
  induction d with
  | zero =>
    intro i h
    apply ev_succ
    simp only [laws_eqByteS.l0]
    exact ev_neg (by omega) (Ev.now _)
  | succ d ih =>
    intro i h
    have hw : wrap64 ((i : Int) + 1) = ((i + 1 : Nat) : Int) := by rw [wrap64_in (by omega) (by omega)]; omega
    apply ev_succ
    simp only [laws_eqByteS.l0, hw]
    exact ev_pos (by omega) (ev_pos (by omega) (ev_pos (by omega) (ev_pos trivial (ih (i + 1) (by omega)))))
theorem eqByteS_ev {l : List Int} (hl : l.length ≤ 1048576) : Ev (fun k => laws_eqByteS.f k l l) true := by
  unfold laws_eqByteS.f
  exact ev_pos rfl (eqByteS_loop l hl l.length 0 (by omega))
theorem eqPieceS_loop (l : List S143) (hl : l.length ≤ 1048576) (hk : ∀ x ∈ l, x.f2.length ≤ 1048576) (d : Nat) : ∀ (i : Nat), i + d = l.length → Ev (fun k => laws_eqPieceS.l0 k l l i) true := by
  induction d with
  | zero =>
    intro i h
    apply ev_succ
    simp only [laws_eqPieceS.l0]
    exact ev_neg (by omega) (Ev.now _)
  | succ d ih =>
    intro i h
    have hi : i < l.length := by omega
    have hw : wrap64 ((i : Int) + 1) = ((i + 1 : Nat) : Int) := by rw [wrap64_in (by omega) (by omega)]; omega
    apply ev_succ
    simp only [laws_eqPieceS.l0, hw, rd143 l i hi, laws_eqPiece.f]
    exact ev_pos (by omega) (ev_pos (by omega) (ev_pos (by omega) (Ev.bind (a := true) (ev_pos trivial (ev_neg (by simp) (Ev.bind (eqByteS_ev (hk _ (List.getElem_mem hi))) (ev_pos rfl (Ev.now _))))) (ev_pos rfl (ih (i + 1) (by omega))))))
theorem eqPieceS_ev {l : List S143} (hl : l.length ≤ 1048576) (hk : ∀ x ∈ l, x.f2.length ≤ 1048576) : Ev (fun k => laws_eqPieceS.f k l l) true := by
  unfold laws_eqPieceS.f
  exact ev_pos rfl (eqPieceS_loop l hl hk l.length 0 (by omega))
theorem eqBoxS_loop (l : List S140) (hl : SmallB l) (d : Nat) : ∀ (i : Nat), i + d = l.length → Ev (fun k => laws_eqBoxS.l0 k l l i) true := by
  have hl0 := hl.1
  induction d with
  | zero =>
    intro i h
    apply ev_succ
    simp only [laws_eqBoxS.l0]
    exact ev_neg (by omega) (Ev.now _)
  | succ d ih =>
    intro i h
    have hi : i < l.length := by omega
    have hw : wrap64 ((i : Int) + 1) = ((i + 1 : Nat) : Int) := by rw [wrap64_in (by omega) (by omega)]; omega
    obtain ⟨k1, k2⟩ := hl.2 _ (List.getElem_mem hi)
    apply ev_succ
    simp only [laws_eqBoxS.l0, hw, rd140 l i hi, laws_eqBox.f]
    exact ev_pos (by omega) (ev_pos (by omega) (ev_pos (by omega) (Ev.bind (a := true) (ev_pos trivial (ev_pos trivial (ev_pos trivial (ev_pos trivial (ev_pos trivial (Ev.bind (eqPieceS_ev k1 k2) (ev_pos rfl (Ev.now _)))))))) (ev_pos rfl (ih (i + 1) (by omega))))))
theorem eqBoxS_ev {l : List S140} (hl : SmallB l) : Ev (fun k => laws_eqBoxS.f k l l) true := by
  unfold laws_eqBoxS.f
  exact ev_pos rfl (eqBoxS_loop l hl l.length 0 (by omega))
/-! ### One box -/
theorem spec_in (a b c : Int) : spec_l01In.f a b c = some (decide (b ≤ a ∧ a ≤ c)) := by
  unfold spec_l01In.f
  split <;> simp <;> omega
theorem impl_in (a b c : Int) : impl_inRange.f a b c = some (decide (b ≤ a ∧ a ≤ c)) := by
  unfold impl_inRange.f
  split <;> simp <;> omega
/-- All the pieces are there, one behind the other. -/
theorem whole_loop (ps : List S143) (hn : 1 ≤ ps.length) (hl : ps.length ≤ 12) (u v : ByteArray) (b c e : Int) (d : Nat) : ∀ (j : Nat) (x : Int), j + d = ps.length → ∃ t, Ev (fun k => spec_l03Whole.l0 k x j u v b c e ps) t ∧ Ev (fun k => impl_wholePieces.l0 k ps x ps ps.length j) t := by
  have hw1 : wrap64 ((ps.length : Int) - 1) = (ps.length : Int) - 1 := wrap64_in (by omega) (by omega)
  induction d with
  | zero =>
    intro j x h
    refine ⟨(rd_T143 ps ((ps.length : Int) - 1)).f1, ?_, ?_⟩
    · apply ev_succ
      simp only [spec_l03Whole.l0, hw1]
      exact ev_neg (by omega) (ev_pos (by omega) (ev_pos (by omega) (Ev.now _)))
    · apply ev_succ
      simp only [impl_wholePieces.l0, hw1]
      exact ev_neg (by omega) (ev_pos (by omega) (ev_pos (by omega) (ev_pos (by omega) (Ev.now _))))
  | succ d ih =>
    intro j x h
    have hw : wrap64 ((j : Int) + 1) = ((j + 1 : Nat) : Int) := by rw [wrap64_in (by omega) (by omega)]; omega
    by_cases c : (rd_T143 ps (j : Int)).f0 = x
    · obtain ⟨t, g1, g2⟩ := ih (j + 1) (wrap64 (x + ((rd_T143 ps (j : Int)).f2.length : Int))) (by omega)
      refine ⟨t, ?_, ?_⟩
      · apply ev_succ
        simp only [spec_l03Whole.l0, hw]
        exact ev_pos (by omega) (ev_pos (by omega) (ev_pos c g1))
      · apply ev_succ
        simp only [impl_wholePieces.l0, hw]
        exact ev_pos (by omega) (ev_pos (by omega) (ev_pos (by omega) (ev_pos c g2)))
    · refine ⟨false, ?_, ?_⟩
      · apply ev_succ
        simp only [spec_l03Whole.l0]
        exact ev_pos (by omega) (ev_pos (by omega) (ev_neg c (Ev.now _)))
      · apply ev_succ
        simp only [impl_wholePieces.l0]
        exact ev_pos (by omega) (ev_pos (by omega) (ev_pos (by omega) (ev_neg c (Ev.now _))))
theorem whole_ev (ps : List S143) (hn : 1 ≤ ps.length) (hl : ps.length ≤ 12) (u v : ByteArray) (b c e : Int) : ∃ t, Ev (fun k => spec_l03Whole.f k u v b c e ps) t ∧ Ev (fun k => impl_wholePieces.f k ps) t := whole_loop ps hn hl u v b c e ps.length 0 0 (by omega)
def pOK (p : S143) : Prop := (0 ≤ p.f0 ∧ p.f0 ≤ 65515) ∧ Int.tmod p.f0 8 = 0 ∧ (p.f2.length : Int) ≤ 1500 ∧ p.f0 + (p.f2.length : Int) ≤ 65515 ∧ (p.f1 = true ∨ (0 < (p.f2.length : Int) ∧ (p.f2.length : Int) % 8 = 0))
instance (p : S143) : Decidable (pOK p) := by unfold pOK; infer_instance
theorem pieceOK_eq (p : S143) (h : p.f2.length ≤ 1048576) : impl_pieceOK.f p.f0 p.f1 p.f2 = some (decide (pOK p)) := by
  have hP : pOK p ↔ ((0 ≤ p.f0 ∧ p.f0 ≤ 65515) ∧ Int.tmod p.f0 8 = 0 ∧ (p.f2.length : Int) ≤ 1500 ∧ p.f0 + (p.f2.length : Int) ≤ 65515 ∧ (p.f1 = true ∨ (0 < (p.f2.length : Int) ∧ (p.f2.length : Int) % 8 = 0))) := Iff.rfl
  unfold impl_pieceOK.f
  rw [impl_in]
  simp only [Option.bind_some, decide_eq_true_eq]
  by_cases h1 : 0 ≤ p.f0 ∧ p.f0 ≤ 65515
  · rw [if_pos h1, wrap64_in (by omega) (by omega)]
    by_cases h2 : Int.tmod p.f0 8 = 0
    · rw [if_pos h2]
      by_cases h3 : (p.f2.length : Int) > 1500
      · rw [if_pos h3, decide_eq_false (by rw [hP]; omega)]
      · rw [if_neg h3]
        by_cases h4 : p.f0 + (p.f2.length : Int) > 65515
        · rw [if_pos h4, decide_eq_false (by rw [hP]; omega)]
        · rw [if_neg h4]
          by_cases h5 : p.f1 = true
          · rw [if_pos h5, decide_eq_true (hP.mpr ⟨h1, h2, by omega, by omega, .inl h5⟩)]
          · rw [if_neg h5]
            by_cases h6 : (p.f2.length : Int) > 0
            · rw [if_pos h6]
              congr 1
              rw [Bool.eq_iff_iff, beq_iff_eq, decide_eq_true_iff, hP]
              exact ⟨fun h => ⟨h1, h2, by omega, by omega, .inr ⟨h6, h⟩⟩, fun h => (h.2.2.2.2.resolve_left h5).2⟩
            · rw [if_neg h6, decide_eq_false (fun h => h6 ((hP.mp h).2.2.2.2.resolve_left h5).1)]
    · rw [if_neg h2, decide_eq_false (fun h => h2 (hP.mp h).2.1)]
  · rw [if_neg h1, decide_eq_false (fun h => h1 (hP.mp h).1)]
/-- Where the next piece may begin at the soonest. -/
def Inv (ps : List S143) (j : Nat) (e : Int) : Prop := (j = 0 ∧ e = 0) ∨ ∃ q : Nat, j = q + 1 ∧ q < ps.length ∧ 0 ≤ (rd_T143 ps (q : Int)).f0 ∧ (j < ps.length → 1 ≤ (rd_T143 ps (q : Int)).f2.length) ∧ e = (rd_T143 ps (q : Int)).f0 + ((rd_T143 ps (q : Int)).f2.length : Int) ∧ e ≤ 65515 ∧ (rd_T143 ps (q : Int)).f2.length ≤ 1500
def pG (ps : List S143) (j : Nat) (e : Int) : Prop := pOK (rd_T143 ps (j : Int)) ∧ ((rd_T143 ps (j : Int)).f1 = true → ¬ (j : Int) < (ps.length : Int) - 1) ∧ e ≤ (rd_T143 ps (j : Int)).f0
instance (ps : List S143) (j : Nat) (e : Int) : Decidable (pG ps j e) := by unfold pG; infer_instance
/-- The program's step over one piece. -/
theorem implPiece_ev (ps : List S143) (hl : ps.length ≤ 12) (hk : ∀ p ∈ ps, p.f2.length ≤ 1048576) (u v : ByteArray) (b c e0 : Int) (j : Nat) (hj : j < ps.length) (e : Int) (hI : Inv ps j e) {r : Bool} (hr : pG ps j e → Ev (fun k => impl_boxOK.l0 k ps ps.length ((j + 1 : Nat) : Int) u v b c e0 ps) r) :
    (pG ps j e → Ev (fun k => impl_boxOK.l0 k ps ps.length j u v b c e0 ps) r) ∧ (¬ pG ps j e → Ev (fun k => impl_boxOK.l0 k ps ps.length j u v b c e0 ps) false) := by
  have hw : wrap64 ((j : Int) + 1) = ((j + 1 : Nat) : Int) := by rw [wrap64_in (by omega) (by omega)]; omega
  have hw1 : wrap64 ((ps.length : Int) - 1) = (ps.length : Int) - 1 := wrap64_in (by omega) (by omega)
  have hp : (rd_T143 ps (j : Int)).f2.length ≤ 1048576 := by rw [rd143 ps j hj]; exact hk _ (List.getElem_mem hj)
  have hE := pieceOK_eq _ hp
  have ht : Ev (fun k => impl_boxOK.j3 k j ps ps.length j true u v b c e0 ps (rd_T143 ps (j : Int)).f0 (rd_T143 ps (j : Int)).f1 (rd_T143 ps (j : Int)).f2) false := by
    apply ev_succ
    simp only [impl_boxOK.j3, if_true]
    exact Ev.now _
  have hf : pOK (rd_T143 ps (j : Int)) → (pG ps j e → Ev (fun k => impl_boxOK.j3 k j ps ps.length j false u v b c e0 ps (rd_T143 ps (j : Int)).f0 (rd_T143 ps (j : Int)).f1 (rd_T143 ps (j : Int)).f2) r) ∧ (¬ e ≤ (rd_T143 ps (j : Int)).f0 → Ev (fun k => impl_boxOK.j3 k j ps ps.length j false u v b c e0 ps (rd_T143 ps (j : Int)).f0 (rd_T143 ps (j : Int)).f1 (rd_T143 ps (j : Int)).f2) false) := by
    intro ok
    obtain ⟨⟨o1, o2⟩, _, o3, o4, _⟩ := ok
    rcases hI with ⟨rfl, rfl⟩ | ⟨q, rfl, q1, q2, q3, q4, q5, q6⟩
    · refine ⟨fun h => ?_, fun h => absurd o1 h⟩
      have hr := hr h
      apply ev_succ
      simp only [impl_boxOK.j3, hw]
      exact ev_neg (by simp) (ev_neg (by omega) hr)
    · have q3 := q3 hj
      have hq : wrap64 (((q + 1 : Nat) : Int) - 1) = (q : Int) := by rw [wrap64_in (by omega) (by omega)]; omega
      refine ⟨fun h => ?_, fun h => ?_⟩
      · have hr := hr h
        have h := h.2.2
        apply ev_succ
        simp only [impl_boxOK.j3, hw, hq, impl_overlap.f]
        refine ev_neg (by simp) (ev_pos (by omega) (ev_pos (by omega) (ev_pos (by omega) (ev_neg (by omega) ?_))))
        rw [wrap64_in (by omega) (by omega), wrap64_in (n := (rd_T143 ps (q : Int)).f0 + ((rd_T143 ps (q : Int)).f2.length : Int)) (by omega) (by omega)]
        refine ev_bindc (a := false) ?_ (ev_neg (by simp) hr)
        rw [if_pos (by omega), decide_eq_false (by omega)]
      · apply ev_succ
        simp only [impl_boxOK.j3, hw, hq, impl_overlap.f]
        refine ev_neg (by simp) (ev_pos (by omega) (ev_pos (by omega) (ev_pos (by omega) (ev_ite (fun _ => Ev.now _) (fun h2 => ?_)))))
        rw [wrap64_in (by omega) (by omega), wrap64_in (n := (rd_T143 ps (q : Int)).f0 + ((rd_T143 ps (q : Int)).f2.length : Int)) (by omega) (by omega)]
        refine ev_bindc (a := true) ?_ (ev_pos rfl (Ev.now _))
        rw [if_pos (by omega), decide_eq_true (by omega)]
  refine ⟨fun h => ?_, fun h => ?_⟩
  · have hG := h
    obtain ⟨h1, h2, h3⟩ := h
    rw [decide_eq_true h1] at hE
    have g := (hf h1).1 hG
    apply ev_succ
    simp only [impl_boxOK.l0, hw1]
    refine ev_pos (by omega) (ev_pos (by omega) (ev_pos (by omega) (ev_bindc hE (ev_pos rfl (ev_ite (fun c1 => ?_) (fun _ => g))))))
    rw [decide_eq_false (h2 c1)]
    exact g
  · by_cases h1 : pOK (rd_T143 ps (j : Int))
    · rw [decide_eq_true h1] at hE
      apply ev_succ
      simp only [impl_boxOK.l0, hw1]
      refine ev_pos (by omega) (ev_pos (by omega) (ev_pos (by omega) (ev_bindc hE (ev_pos rfl (ev_ite (fun c1 => ?_) (fun c1 => ?_))))))
      · by_cases h2 : (j : Int) < (ps.length : Int) - 1
        · rw [decide_eq_true h2]
          exact ht
        · rw [decide_eq_false h2]
          exact (hf h1).2 (fun h3 => h ⟨h1, fun _ => h2, h3⟩)
      · exact (hf h1).2 (fun h3 => h ⟨h1, fun c2 => absurd c2 c1, h3⟩)
    · rw [decide_eq_false h1] at hE
      apply ev_succ
      simp only [impl_boxOK.l0]
      exact ev_pos (by omega) (ev_pos (by omega) (ev_pos (by omega) (ev_bindc hE (ev_neg (by simp) ht))))
/-- The reference's step over one piece. -/
theorem specPiece_ev (L : List S140) (i : Int) (ps : List S143) (hl : ps.length ≤ 12) (hk : ∀ p ∈ ps, p.f2.length ≤ 1048576) (u v : ByteArray) (b c e0 : Int) (j : Nat) (hj : j < ps.length) (e : Int) (hI : Inv ps j e) {r : Bool}
    (hr : pG ps j e → Ev (fun k => spec_BoxesOK.l1 k L i ((rd_T143 ps (j : Int)).f0 + ((rd_T143 ps (j : Int)).f2.length : Int)) ((j + 1 : Nat) : Int) u v b c e0 ps) r) :
    (pG ps j e → Ev (fun k => spec_BoxesOK.l1 k L i e j u v b c e0 ps) r) ∧ (¬ pG ps j e → Ev (fun k => spec_BoxesOK.l1 k L i e j u v b c e0 ps) false) := by
  have hw : wrap64 ((j : Int) + 1) = ((j + 1 : Nat) : Int) := by rw [wrap64_in (by omega) (by omega)]; omega
  have hw1 : wrap64 ((ps.length : Int) - 1) = (ps.length : Int) - 1 := wrap64_in (by omega) (by omega)
  have hp : (rd_T143 ps (j : Int)).f2.length ≤ 1048576 := by rw [rd143 ps j hj]; exact hk _ (List.getElem_mem hj)
  have he : 0 ≤ e := by
    rcases hI with ⟨_, rfl⟩ | ⟨q, _, _, q2, _, q4, _⟩ <;> omega
  have w2 : wrap64 (65515 - ((rd_T143 ps (j : Int)).f2.length : Int)) = 65515 - ((rd_T143 ps (j : Int)).f2.length : Int) := wrap64_in (by omega) (by omega)
  refine ⟨fun h => ?_, fun h => ?_⟩
  · have g := hr h
    obtain ⟨⟨⟨o1, o2⟩, o5, o3, o4, o6⟩, h2, h3⟩ := h
    rw [← wrap64_in (n := (rd_T143 ps (j : Int)).f0 + ((rd_T143 ps (j : Int)).f2.length : Int)) (by omega) (by omega), ← hw] at g
    apply ev_succ
    simp only [spec_BoxesOK.l1, hw1, w2]
    refine ev_pos (by omega) (ev_pos (by omega) (ev_neg (by omega) (ev_pos o5 (ev_neg (by omega) (ev_neg (by omega) ?_)))))
    by_cases c1 : (rd_T143 ps (j : Int)).f1 = true
    · exact ev_pos c1 (ev_neg (h2 c1) (ev_pos c1 g))
    · obtain ⟨o7, o8⟩ := o6.resolve_left c1
      exact ev_neg c1 (ev_neg c1 (ev_pos o8 (ev_neg (by omega) g)))
  · have hn : ∀ (z1 : ¬ (rd_T143 ps (j : Int)).f0 < e) (z2 : Int.tmod (rd_T143 ps (j : Int)).f0 8 = 0) (z3 : ¬ ((rd_T143 ps (j : Int)).f2.length : Int) > 1500) (z4 : ¬ (rd_T143 ps (j : Int)).f0 > 65515 - ((rd_T143 ps (j : Int)).f2.length : Int)) (z5 : (rd_T143 ps (j : Int)).f1 = true ∨ (0 < ((rd_T143 ps (j : Int)).f2.length : Int) ∧ ((rd_T143 ps (j : Int)).f2.length : Int) % 8 = 0)) (z6 : (rd_T143 ps (j : Int)).f1 = true → ¬ (j : Int) < (ps.length : Int) - 1), False :=
      fun z1 z2 z3 z4 z5 z6 => h ⟨⟨⟨by omega, by omega⟩, z2, by omega, by omega, z5⟩, z6, by omega⟩
    apply ev_succ
    simp only [spec_BoxesOK.l1, hw1, w2]
    refine ev_pos (by omega) (ev_pos (by omega) (ev_ite (fun _ => Ev.now _) (fun z1 => ev_ite (fun z2 => ev_ite (fun _ => Ev.now _) (fun z3 => ev_ite (fun _ => Ev.now _) (fun z4 => ?_))) (fun _ => Ev.now _))))
    by_cases c1 : (rd_T143 ps (j : Int)).f1 = true
    · exact ev_pos c1 (ev_ite (fun _ => Ev.now _) (fun z6 => (hn z1 z2 z3 z4 (.inl c1) (fun _ => z6)).elim))
    · exact ev_neg c1 (ev_neg c1 (ev_ite (fun z7 => ev_ite (fun _ => Ev.now _) (fun z8 => (hn z1 z2 z3 z4 (.inr ⟨by omega, z7⟩) (fun c2 => absurd c2 c1)).elim)) (fun _ => Ev.now _)))
theorem pieces_ev (ps : List S143) (hn : 1 ≤ ps.length) (hl : ps.length ≤ 12) (hk : ∀ p ∈ ps, p.f2.length ≤ 1048576) (u v : ByteArray) (b c e0 : Int) (L : List S140) (i : Int) {r : Bool} (hr : Ev (fun k => spec_BoxesOK.l0 k L (wrap64 (i + 1))) r) (d : Nat) :
    ∀ (j : Nat) (e : Int), j + d = ps.length → Inv ps j e → ∃ t, Ev (fun k => impl_boxOK.l0 k ps ps.length j u v b c e0 ps) t ∧ Ev (fun k => spec_BoxesOK.l1 k L i e j u v b c e0 ps) (if t = true then r else false) := by
  induction d with
  | zero =>
    intro j e h hI
    obtain ⟨t, g1, g2⟩ := whole_ev ps hn hl u v b c e0
    refine ⟨!t, ?_, ?_⟩
    · apply ev_succ
      simp only [impl_boxOK.l0]
      exact ev_neg (by omega) (Ev.bind g2 (Ev.now _))
    · apply ev_succ
      simp only [spec_BoxesOK.l1]
      refine ev_neg (by omega) (Ev.bind g1 ?_)
      cases t
      · exact ev_neg (by simp) hr
      · exact ev_pos rfl (Ev.now _)
  | succ d ih =>
    intro j e h hI
    by_cases hG : pG ps j e
    · have hI' : Inv ps (j + 1) ((rd_T143 ps (j : Int)).f0 + ((rd_T143 ps (j : Int)).f2.length : Int)) := by
        obtain ⟨⟨⟨o1, o2⟩, o5, o3, o4, o6⟩, h2, h3⟩ := hG
        refine .inr ⟨j, rfl, by omega, o1, fun h4 => ?_, rfl, o4, by omega⟩
        rcases o6 with o6 | o6
        · exact absurd (by omega) (h2 o6)
        · omega
      obtain ⟨t, g1, g2⟩ := ih (j + 1) _ (by omega) hI'
      exact ⟨t, (implPiece_ev ps hl hk u v b c e0 j (by omega) e hI (fun _ => g1)).1 hG, (specPiece_ev L i ps hl hk u v b c e0 j (by omega) e hI (fun _ => g2)).1 hG⟩
    · refine ⟨false, ?_, ?_⟩
      · exact (implPiece_ev ps hl hk u v b c e0 j (by omega) e hI (r := false) (fun h => absurd h hG)).2 hG
      · exact (specPiece_ev L i ps hl hk u v b c e0 j (by omega) e hI (r := false) (fun h => absurd h hG)).2 hG
/-! ### All boxes -/
def boxBase (x : S140) : Prop := (x.f0.size = 4 ∧ x.f1.size = 4) ∧ (0 ≤ x.f2 ∧ x.f2 ≤ 65535) ∧ (0 ≤ x.f3 ∧ x.f3 ≤ 255) ∧ (0 ≤ x.f4 ∧ x.f4 ≤ 1000030) ∧ (1 ≤ x.f5.length ∧ x.f5.length ≤ 12)
instance (x : S140) : Decidable (boxBase x) := by unfold boxBase; infer_instance
def sameBox (x y : S140) : Prop := x.f0.toList = y.f0.toList ∧ x.f1.toList = y.f1.toList ∧ x.f2 = y.f2 ∧ x.f3 = y.f3
instance (x y : S140) : Decidable (sameBox x y) := by unfold sameBox; infer_instance
/-- The program's answer about one box. -/
theorem implBox_ev (x : S140) : (boxBase x → ∀ r : Bool, Ev (fun k => impl_boxOK.l0 k x.f5 x.f5.length 0 x.f0 x.f1 x.f2 x.f3 x.f4 x.f5) r → Ev (fun k => impl_boxOK.f k x.f0 x.f1 x.f2 x.f3 x.f4 x.f5) r) ∧ (¬ boxBase x → Ev (fun k => impl_boxOK.f k x.f0 x.f1 x.f2 x.f3 x.f4 x.f5) false) := by
  have t0 : Ev (fun k => impl_boxOK.j0 k true x.f0 x.f1 x.f2 x.f3 x.f4 x.f5) false := by
    apply ev_succ
    simp only [impl_boxOK.j0, if_true]
    exact Ev.now _
  have t1 : Ev (fun k => impl_boxOK.j1 k true x.f0 x.f1 x.f2 x.f3 x.f4 x.f5) false := by
    apply ev_succ
    simp only [impl_boxOK.j1, if_true]
    exact Ev.now _
  unfold impl_boxOK.f
  simp only [impl_in, Option.bind_some, decide_eq_true_eq]
  refine ⟨fun h r hr => ?_, fun h => ?_⟩
  · obtain ⟨⟨h1, h2⟩, h3, h4, h5, h6⟩ := h
    have h7 : (1 : Int) ≤ (x.f5.length : Int) ∧ (x.f5.length : Int) ≤ 12 := by omega
    refine ev_pos (by omega) (ev_pos (by omega) (ev_pos h3 ?_))
    rw [decide_eq_true h4]
    apply ev_succ
    simp only [impl_boxOK.j0, impl_in, Option.bind_some, decide_eq_true_eq]
    refine ev_neg (by simp) (ev_pos h5 ?_)
    rw [decide_eq_true h7]
    apply ev_succ
    simp only [impl_boxOK.j1]
    exact ev_neg (by simp) hr
  · refine ev_ite (fun h1 => ev_ite (fun h2 => ev_ite (fun h3 => ?_) (fun _ => t0)) (fun _ => t0)) (fun _ => t0)
    by_cases h4 : 0 ≤ x.f3 ∧ x.f3 ≤ 255
    · rw [decide_eq_true h4]
      apply ev_succ
      simp only [impl_boxOK.j0, impl_in, Option.bind_some, decide_eq_true_eq]
      refine ev_neg (by simp) (ev_ite (fun h5 => ?_) (fun _ => t1))
      rw [decide_eq_false (fun h6 => h ⟨⟨by omega, by omega⟩, h3, h4, h5, by omega⟩)]
      exact t1
    · rw [decide_eq_false h4]
      exact t0
def apart (L : List S140) (i j : Nat) : Prop := ∀ m, j ≤ m → m < i → ¬ sameBox (rd_T140 L (m : Int)) (rd_T140 L (i : Int))
theorem apart_step {L : List S140} {i j : Nat} (hj : j < i) : apart L i j ↔ ¬ sameBox (rd_T140 L (j : Int)) (rd_T140 L (i : Int)) ∧ apart L i (j + 1) := by
  constructor
  · intro h
    exact ⟨h j (Nat.le_refl _) hj, fun m h1 h2 => h m (by omega) h2⟩
  · rintro ⟨h1, h2⟩ m h3 h4
    by_cases e : m = j
    · subst e
      exact h1
    · exact h2 m (by omega) h4
theorem sameFlow_eq (x y : S140) : impl_sameFlow.f x.f0 x.f1 x.f2 x.f3 x.f4 x.f5 y.f0 y.f1 y.f2 y.f3 y.f4 y.f5 = some (decide (sameBox y x)) := by
  have hP : sameBox y x ↔ (y.f0.toList = x.f0.toList ∧ y.f1.toList = x.f1.toList ∧ y.f2 = x.f2 ∧ y.f3 = x.f3) := Iff.rfl
  unfold impl_sameFlow.f
  by_cases h1 : x.f0.toList = y.f0.toList
  · rw [if_pos h1]
    by_cases h2 : x.f1.toList = y.f1.toList
    · rw [if_pos h2]
      by_cases h3 : x.f2 = y.f2
      · rw [if_pos h3]
        congr 1
        rw [Bool.eq_iff_iff, beq_iff_eq, decide_eq_true_iff, hP]
        exact ⟨fun h => ⟨h1.symm, h2.symm, h3.symm, h.symm⟩, fun h => h.2.2.2.symm⟩
      · rw [if_neg h3, decide_eq_false (fun h => h3 (hP.mp h).2.2.1.symm)]
    · rw [if_neg h2, decide_eq_false (fun h => h2 (hP.mp h).2.1.symm)]
  · rw [if_neg h1, decide_eq_false (fun h => h1 (hP.mp h).1.symm)]
theorem rd_take (L : List S140) (i j : Nat) (hi : i < L.length) (hj : j < i) : rd_T140 (L.take i) (j : Int) = rd_T140 L (j : Int) := by
  rw [rd140 _ j (by simp; omega), rd140 L j (by omega)]
  simp
theorem implL1_ev (L : List S140) (i : Nat) (hi : i < L.length) (hl : L.length ≤ 6) {r : Bool} (hr : Ev (fun k => impl_BoxesOK.l0 k L L L.length ((i + 1 : Nat) : Int)) r) (d : Nat) :
    ∀ j : Nat, j + d = i → (apart L i j → Ev (fun k => impl_BoxesOK.l1 k L L L.length i (L.take i) i j (rd_T140 L i).f0 (rd_T140 L i).f1 (rd_T140 L i).f2 (rd_T140 L i).f3 (rd_T140 L i).f4 (rd_T140 L i).f5) r) ∧ (¬ apart L i j → Ev (fun k => impl_BoxesOK.l1 k L L L.length i (L.take i) i j (rd_T140 L i).f0 (rd_T140 L i).f1 (rd_T140 L i).f2 (rd_T140 L i).f3 (rd_T140 L i).f4 (rd_T140 L i).f5) false) := by
  have hw : wrap64 ((i : Int) + 1) = ((i + 1 : Nat) : Int) := by rw [wrap64_in (by omega) (by omega)]; omega
  have ht : (L.take i).length = i := by simp; omega
  induction d with
  | zero =>
    intro j h
    refine ⟨fun _ => ?_, fun hn => absurd (fun m h1 h2 => by omega) hn⟩
    apply ev_succ
    simp only [impl_BoxesOK.l1, hw]
    exact ev_neg (by omega) hr
  | succ d ih =>
    intro j h
    have hj : j < i := by omega
    have hwj : wrap64 ((j : Int) + 1) = ((j + 1 : Nat) : Int) := by rw [wrap64_in (by omega) (by omega)]; omega
    obtain ⟨g1, g2⟩ := ih (j + 1) (by omega)
    have e := rd_take L i j hi hj
    have hs := sameFlow_eq (rd_T140 L (i : Int)) (rd_T140 L (j : Int))
    rw [apart_step hj]
    refine ⟨fun hu => ?_, fun hn => ?_⟩
    · rw [decide_eq_false hu.1] at hs
      apply ev_succ
      simp only [impl_BoxesOK.l1, hwj, e]
      exact ev_pos (by omega) (ev_pos (by omega) (ev_pos (by omega) (ev_bindc hs (ev_neg (by simp) (g1 hu.2)))))
    · apply ev_succ
      simp only [impl_BoxesOK.l1, hwj, e]
      refine ev_pos (by omega) (ev_pos (by omega) (ev_pos (by omega) (ev_bindc hs (ev_ite (fun _ => Ev.now _) (fun c => ?_)))))
      exact g2 (fun h => hn ⟨fun h2 => c (decide_eq_true h2), h⟩)
/-- The reference's search. -/
theorem specFind_ev (L : List S140) (i : Nat) (hi : i < L.length) (hl : L.length ≤ 6) (d : Nat) : ∀ j : Nat, j + d = i → ∃ t : Int, Ev (fun k => spec_l03Find.l0 k (L.take i) j (rd_T140 L i).f0 (rd_T140 L i).f1 (rd_T140 L i).f2 (rd_T140 L i).f3 (rd_T140 L i).f4 (rd_T140 L i).f5) t ∧ (t ≥ 0 ↔ ¬ apart L i j) := by
  have htl : (L.take i).length = i := by simp; omega
  induction d with
  | zero =>
    intro j h
    have e : j = i := by omega
    subst e
    refine ⟨-1, ?_, ⟨fun h => by omega, fun hn => absurd (fun m h1 h2 => by omega) hn⟩⟩
    apply ev_succ
    simp only [spec_l03Find.l0]
    exact ev_neg (by omega) (Ev.now _)
  | succ d ih =>
    intro j h
    have hj : j < i := by omega
    have hwj : wrap64 ((j : Int) + 1) = ((j + 1 : Nat) : Int) := by rw [wrap64_in (by omega) (by omega)]; omega
    obtain ⟨t, g, ht⟩ := ih (j + 1) (by omega)
    have e := rd_take L i j hi hj
    rw [apart_step hj]
    by_cases c : sameBox (rd_T140 L (j : Int)) (rd_T140 L (i : Int))
    · refine ⟨j, ?_, ⟨fun _ h => h.1 c, fun _ => by omega⟩⟩
      apply ev_succ
      simp only [spec_l03Find.l0, e]
      exact ev_pos (by omega) (ev_pos (by omega) (ev_pos c.1 (ev_pos c.2.1 (ev_pos c.2.2.1 (ev_pos c.2.2.2 (Ev.now _))))))
    · refine ⟨t, ?_, ⟨fun h h2 => (ht.mp h) h2.2, fun h => ht.mpr (fun h2 => h ⟨c, h2⟩)⟩⟩
      apply ev_succ
      simp only [spec_l03Find.l0, hwj, e]
      exact ev_pos (by omega) (ev_pos (by omega) (ev_ite (fun c1 => ev_ite (fun c2 => ev_ite (fun c3 => ev_ite (fun c4 => absurd ⟨c1, c2, c3, c4⟩ c) (fun _ => g)) (fun _ => g)) (fun _ => g)) (fun _ => g)))
theorem boxes_both (L : List S140) (hs : SmallB L) (hl : L.length ≤ 6) (d : Nat) : ∀ i : Nat, i + d = L.length → ∃ r, Ev (fun k => spec_BoxesOK.l0 k L i) r ∧ Ev (fun k => impl_BoxesOK.l0 k L L L.length i) r := by
  induction d with
  | zero =>
    intro i h
    refine ⟨true, ?_, ?_⟩
    · apply ev_succ
      simp only [spec_BoxesOK.l0]
      exact ev_neg (by omega) (Ev.now _)
    · apply ev_succ
      simp only [impl_BoxesOK.l0]
      exact ev_neg (by omega) (Ev.now _)
  | succ d ih =>
    intro i h
    have hi : i < L.length := by omega
    obtain ⟨r, g1, g2⟩ := ih (i + 1) (by omega)
    have hw : wrap64 ((i : Int) + 1) = ((i + 1 : Nat) : Int) := by rw [wrap64_in (by omega) (by omega)]; omega
    have hti : ((i : Int)).toNat = i := by omega
    have htl : ((L.take i).length : Int) = (i : Int) := by simp; omega
    obtain ⟨b1, b2⟩ := implBox_ev (rd_T140 L (i : Int))
    have st : Ev (fun k => spec_BoxesOK.j1 k L i true (rd_T140 L i).f0 (rd_T140 L i).f1 (rd_T140 L i).f2 (rd_T140 L i).f3 (rd_T140 L i).f4 (rd_T140 L i).f5) false := by
      apply ev_succ
      simp only [spec_BoxesOK.j1, if_true]
      exact Ev.now _
    obtain ⟨f, gf, hf⟩ := specFind_ev L i hi hl i 0 (by omega)
    have gf' : Ev (fun k => spec_l03Find.f k (L.take i) (rd_T140 L i).f0 (rd_T140 L i).f1 (rd_T140 L i).f2 (rd_T140 L i).f3 (rd_T140 L i).f4 (rd_T140 L i).f5) f := gf
    obtain ⟨a1, a2⟩ := implL1_ev L i hi hl g2 i 0 (by omega)
    by_cases hB : boxBase (rd_T140 L (i : Int))
    · have hsm := hs.2 L[i] (List.getElem_mem hi)
      rw [← rd140 L i hi] at hsm
      have hBc := hB
      obtain ⟨⟨h1, h2⟩, h3, h4, h5, h6⟩ := hB
      obtain ⟨t, p1, p2⟩ := pieces_ev (rd_T140 L (i : Int)).f5 h6.1 h6.2 hsm.2 (rd_T140 L i).f0 (rd_T140 L i).f1 (rd_T140 L i).f2 (rd_T140 L i).f3 (rd_T140 L i).f4 L i (by rw [hw]; exact g1) (rd_T140 L (i : Int)).f5.length 0 0 (by omega) (.inl ⟨rfl, rfl⟩)
      have bx := b1 hBc t p1
      have spec1 : ∀ v : Bool, Ev (fun k => spec_BoxesOK.j1 k L i (decide (f ≥ 0)) (rd_T140 L i).f0 (rd_T140 L i).f1 (rd_T140 L i).f2 (rd_T140 L i).f3 (rd_T140 L i).f4 (rd_T140 L i).f5) v → Ev (fun k => spec_BoxesOK.l0 k L i) v := by
        intro v hv
        apply ev_succ
        simp only [spec_BoxesOK.l0, spec_in, Option.bind_some, decide_eq_true_eq, hti]
        exact ev_pos (by omega) (ev_pos (by omega) (ev_pos (by omega) (ev_pos (by omega) (ev_pos h3 (ev_pos h4 (ev_pos h5 (ev_neg (by omega) (ev_neg (by omega) (ev_pos (by omega) (Ev.bind gf' hv))))))))))
      by_cases hA : apart L i 0
      · refine ⟨if t = true then r else false, spec1 _ ?_, ?_⟩
        · rw [decide_eq_false (fun h => hf.mp h hA)]
          apply ev_succ
          simp only [spec_BoxesOK.j1]
          exact ev_neg (by simp) p2
        · apply ev_succ
          simp only [impl_BoxesOK.l0, hti]
          refine ev_pos (by omega) (ev_pos (by omega) (ev_pos (by omega) (Ev.bind bx (ev_ite (fun ht => ev_pos (by omega) (ev_some ?_)) (fun ht => ev_fin ?_)))))
          · simp only [htl]
            rw [if_pos ht]
            exact a1 hA
          · rw [if_neg ht]
      · refine ⟨false, spec1 _ ?_, ?_⟩
        · rw [decide_eq_true (hf.mpr hA)]
          exact st
        · apply ev_succ
          simp only [impl_BoxesOK.l0, hti]
          refine ev_pos (by omega) (ev_pos (by omega) (ev_pos (by omega) (Ev.bind bx (ev_ite (fun ht => ev_pos (by omega) (ev_some ?_)) (fun ht => Ev.now _)))))
          simp only [htl]
          exact a2 hA
    · refine ⟨false, ?_, ?_⟩
      · have hn : ∀ (z1 : ((rd_T140 L (i : Int)).f0.size : Int) = 4) (z2 : ((rd_T140 L (i : Int)).f1.size : Int) = 4) (z3 : 0 ≤ (rd_T140 L (i : Int)).f2 ∧ (rd_T140 L (i : Int)).f2 ≤ 65535) (z4 : 0 ≤ (rd_T140 L (i : Int)).f3 ∧ (rd_T140 L (i : Int)).f3 ≤ 255) (z5 : 0 ≤ (rd_T140 L (i : Int)).f4 ∧ (rd_T140 L (i : Int)).f4 ≤ 1000030) (z6 : ¬ ((rd_T140 L (i : Int)).f5.length : Int) = 0) (z7 : ¬ ((rd_T140 L (i : Int)).f5.length : Int) > 12), False :=
          fun z1 z2 z3 z4 z5 z6 z7 => hB ⟨⟨by omega, by omega⟩, z3, z4, z5, by omega, by omega⟩
        apply ev_succ
        simp only [spec_BoxesOK.l0, spec_in, Option.bind_some, decide_eq_true_eq]
        exact ev_pos (by omega) (ev_pos (by omega) (ev_ite (fun z1 => ev_ite (fun z2 => ev_ite (fun z3 => ev_ite (fun z4 => ev_ite (fun z5 => ev_ite (fun _ => st) (fun z6 => ev_ite (fun _ => st) (fun z7 => (hn z1 z2 z3 z4 z5 z6 z7).elim))) (fun _ => st)) (fun _ => st)) (fun _ => st)) (fun _ => st)) (fun _ => st)))
      · apply ev_succ
        simp only [impl_BoxesOK.l0]
        exact ev_pos (by omega) (ev_pos (by omega) (ev_pos (by omega) (Ev.bind (b2 hB) (ev_neg (by simp) (Ev.now _)))))
theorem boxesOK_ev (L : List S140) (hs : SmallB L) : ∃ r, Ev (fun k => spec_BoxesOK.f k L) r ∧ Ev (fun k => impl_BoxesOK.f k L) r := by
  unfold spec_BoxesOK.f impl_BoxesOK.f
  by_cases c : (L.length : Int) > 6
  · exact ⟨false, ev_pos c (Ev.now _), ev_pos c (Ev.now _)⟩
  · obtain ⟨r, g1, g2⟩ := boxes_both L hs (by omega) L.length 0 (by omega)
    exact ⟨r, ev_neg c g1, ev_neg c g2⟩

theorem FnExactBoxesOK : SaysFnExactBoxesOK.Says := by
  intro l h
  refine Ev.rounds (g := fun k => laws_FnExactBoxesOK.f k l) ?_
  unfold laws_FnExactBoxesOK.f
  obtain ⟨z, gz, hz⟩ := szBoxS_ev l h.2 h.1
  refine Ev.bind gz (ev_ite (fun _ => Ev.now _) (fun hn => ?_))
  obtain ⟨hl, hk⟩ := hz.resolve_left hn
  have gc := toBoxS_ev hl hk
  have hs := smallB_map hl hk
  obtain ⟨r, g1, g2⟩ := boxesOK_ev (l.map convB) hs
  exact Ev.bind gc (Ev.bind g1 (Ev.bind gc (Ev.bind g2 (ev_neg (by simp) (Ev.bind gc (Ev.bind (eqBoxS_ev hs) (ev_pos rfl (Ev.now _))))))))

end Go.Proofs.Ytjfpkfophfelmaa.Pure
