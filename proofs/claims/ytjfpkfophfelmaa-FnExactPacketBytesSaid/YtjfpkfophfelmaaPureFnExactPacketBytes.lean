/- The program's PacketBytes answers what the reference's answers, for every packet, in new memory; no condition. -/
import Derived.Test.YtjfpkfophfelmaaSaysFnExactPacketBytes
import Derived.Test.YtjfpkfophfelmaaSum
namespace Go.Proofs.Ytjfpkfophfelmaa.Pure
set_option linter.unusedSimpArgs false
open Go.RowKit Go.Proofs.Ytjfpkfophfelmaa.QFnExactPacketBytes Go.Proofs.YtjfpkfophfelmaaV.PrintWords Go.Proofs.YtjfpkfophfelmaaV.PrintLast Go.Proofs.Ytjfpkfophfelmaa.Aid

theorem spec_in (a b c : Int) : spec_l01In.f a b c = some (decide (b ≤ a ∧ a ≤ c)) := by
  unfold spec_l01In.f
  split <;> simp <;> omega
theorem impl_in (a b c : Int) : impl_inRange.f a b c = some (decide (b ≤ a ∧ a ≤ c)) := by
  unfold impl_inRange.f
  split <;> simp <;> omega
/-! ### toByteS, eqByteS: a copy; whether two lists are alike -/
theorem toByteS_loop (l : List Int) (hl : l.length ≤ 140737488355328) (d : Nat) : ∀ (acc : List Int) (i : Nat), acc.length = l.length → acc.take i = l.take i → i + d = l.length → Ev (fun k => laws_toByteS.l0 k l acc i) l := by
  induction d with
  | zero =>
    intro acc i h1 h2 h3
    have e : acc = l := by
      rw [List.take_of_length_le (by omega), List.take_of_length_le (by omega)] at h2
      exact h2
    subst e
    apply ev_succ
    simp only [laws_toByteS.l0]
    exact ev_neg (by omega) (Ev.now _)
  | succ d ih =>
    intro acc i h1 h2 h3
    have hw : wrap64 ((i : Int) + 1) = ((i + 1 : Nat) : Int) := by rw [wrap64_in (by omega) (by omega)]; omega
    apply ev_succ
    simp only [laws_toByteS.l0, hw]
    refine ev_pos (by omega) (ev_pos (by omega) (ev_pos (by omega) ?_))
    refine ih _ (i + 1) (by simp [h1]) ?_ (by omega)
    have hi : i < l.length := by omega
    have hj : i < acc.length := by omega
    rw [List.take_succ_eq_append_getElem (by simpa using hj), List.take_succ_eq_append_getElem hi, rd_at l rfl hi]
    simp [List.take_set_of_le, h2]
theorem toByteS_ev {l : List Int} (hl : l.length ≤ 140737488355328) : Ev (fun k => laws_toByteS.f k l) l := by
  unfold laws_toByteS.f
  refine ev_pos (by omega) (ev_pos (by omega) ?_)
  exact toByteS_loop l hl l.length _ 0 (by simp) (by simp) (by omega)
theorem eqByteS_loop (l : List Int) (hl : l.length ≤ 140737488355328) (d : Nat) : ∀ (i : Nat), i + d = l.length → Ev (fun k => laws_eqByteS.l0 k l l i) true := by
  induction d with
  | zero =>
    intro i h
    apply ev_succ
    simp only [laws_eqByteS.l0]
    exact ev_neg (by omega) (Ev.now _)
  | succ d ih =>
    intro i h
    have hw : wrap64 ((i : Int) + 1) = ((i + 1 : Nat) : Int) := by rw [wrap64_in (by omega) (by omega)]; omega
    apply ev_succ
    simp only [laws_eqByteS.l0, hw]
    exact ev_pos (by omega) (ev_pos (by omega) (ev_pos (by omega) (ev_pos trivial (ih (i + 1) (by omega)))))
theorem eqByteS_ev {l : List Int} (hl : l.length ≤ 140737488355328) : Ev (fun k => laws_eqByteS.f k l l) true := by
  unfold laws_eqByteS.f
  exact ev_pos rfl (eqByteS_loop l hl l.length 0 (by omega))
/-! ### Marks: numbers written into a row of bytes, and looked for -/
theorem mark_loop (n : Nat) (hn : n ≤ 140737488355328) (m : Int) (hm : 0 ≤ m ∧ m ≤ 1000000000000) (d : Nat) : ∀ (acc : List Int) (i : Nat), acc.length = n → acc.take i = markL i m → i + d = n → Ev (fun k => laws_markByteS.l0 k acc (m + i) i) (m + n, markL n m) := by
  induction d with
  | zero =>
    intro acc i h1 h2 h3
    rw [List.take_of_length_le (by omega)] at h2
    obtain rfl : i = n := by omega
    subst h2
    apply ev_succ
    simp only [laws_markByteS.l0]
    exact ev_neg (by omega) (Ev.now _)
  | succ d ih =>
    intro acc i h1 h2 h3
    have hw : wrap64 ((i : Int) + 1) = ((i + 1 : Nat) : Int) := by rw [wrap64_in (by omega) (by omega)]; omega
    have hw2 : wrap64 (m + (i : Int) + 1) = m + ((i + 1 : Nat) : Int) := by rw [wrap64_in (by omega) (by omega)]; omega
    apply ev_succ
    simp only [laws_markByteS.l0, hw, hw2]
    refine ev_pos (by omega) (ev_pos (by omega) ?_)
    refine ih _ (i + 1) (by simp [h1]) ?_ (by omega)
    have hj : i < acc.length := by omega
    rw [Int.toNat_natCast, List.take_succ_eq_append_getElem (by simpa using hj), markL_succ]
    simp [List.take_set_of_le, h2]
theorem mark_ev {l : List Int} (hl : l.length ≤ 140737488355328) {m : Int} (hm : 0 ≤ m ∧ m ≤ 1000000000000) : Ev (fun k => laws_markByteS.f k l m) (m + l.length, markL l.length m) := by
  have g := mark_loop l.length hl m hm l.length l 0 rfl rfl (by omega)
  have e : m + ((0 : Nat) : Int) = m := by omega
  rw [e] at g
  exact g
theorem held_loop (n : Nat) (hn : n ≤ 140737488355328) (m : Int) (hm : 0 ≤ m ∧ m ≤ 1000000000000) (d : Nat) : ∀ (i : Nat), i + d = n → Ev (fun k => laws_heldByteS.l0 k (markL n m) (m + i) i) (m + n) := by
  induction d with
  | zero =>
    intro i h3
    obtain rfl : i = n := by omega
    apply ev_succ
    simp only [laws_heldByteS.l0]
    exact ev_neg (by rw [markL_length]; omega) (Ev.now _)
  | succ d ih =>
    intro i h3
    have hw : wrap64 ((i : Int) + 1) = ((i + 1 : Nat) : Int) := by rw [wrap64_in (by omega) (by omega)]; omega
    have hw2 : wrap64 (m + (i : Int) + 1) = m + ((i + 1 : Nat) : Int) := by rw [wrap64_in (by omega) (by omega)]; omega
    apply ev_succ
    simp only [laws_heldByteS.l0, hw, hw2, markL_rd n m i (by omega), if_true]
    exact ev_pos (by rw [markL_length]; omega) (ev_pos (by omega) (ih (i + 1) (by omega)))
theorem held_ev (n : Nat) (hn : n ≤ 140737488355328) {m : Int} (hm : 0 ≤ m ∧ m ≤ 1000000000000) : Ev (fun k => laws_heldByteS.f k (markL n m) m) (m + n) := by
  have g := held_loop n hn m hm n 0 (by omega)
  have e : m + ((0 : Nat) : Int) = m := by omega
  rw [e] at g
  exact g
/-! ### The sums of the two packages -/
theorem specSum_l1 (d : Nat) : ∀ n : Int, 0 ≤ n → n ≤ 4611756387171566592 → n ≤ d → Ev (fun k => spec_l01Sum.l1 k n) (65535 - fold n) := by
  induction d with
  | zero =>
    intro n h0 h1 h2
    have e : wrap64 (65535 - n) = 65535 - fold n := by rw [fold_small h0 (by omega), wrap64_in (by omega) (by omega)]
    apply ev_succ
    simp only [spec_l01Sum.l1, e]
    exact ev_neg (by omega) (Ev.now _)
  | succ d ih =>
    intro n h0 h1 h2
    by_cases hn : n > 65535
    · have e1 : wrap64 ((Int.tmod n 65536) + (wrap64 (Int.tdiv n 65536))) = n % 65536 + n / 65536 := by
        rw [Int.tmod_eq_emod_of_nonneg h0, Int.tdiv_eq_ediv_of_nonneg h0, wrap64_in (n := n / 65536) (by omega) (by omega), wrap64_in (by omega) (by omega)]
      have g := ih (n % 65536 + n / 65536) (by omega) (by omega) (by omega)
      rw [fold_step hn] at g
      apply ev_succ
      simp only [spec_l01Sum.l1]
      refine ev_pos hn ?_
      rw [e1]
      exact g
    · have e : wrap64 (65535 - n) = 65535 - fold n := by rw [fold_small h0 (by omega), wrap64_in (by omega) (by omega)]
      apply ev_succ
      simp only [spec_l01Sum.l1, e]
      exact ev_neg (by omega) (Ev.now _)
theorem specSum_l0 (l : List Int) (hb : Bytes l) (hl : l.length ≤ 140737488355328) (d : Nat) : ∀ (i : Nat) (s : Int), 2 ∣ i → l.length ≤ i + d → 0 ≤ s → s + wsum (l.drop i) ≤ 4611756387171566592 → Ev (fun k => spec_l01Sum.l0 k l s i) (65535 - fold (s + wsum (l.drop i))) := by
  induction d using Nat.strongRecOn with
  | _ d ih =>
    intro i s h2 hd h0 h1
    have hr := wsum_drop_nonneg hb i
    by_cases c : i < l.length
    · have hm : Int.tmod (i : Int) 2 = 0 := by rw [Int.tmod_eq_emod_of_nonneg (by omega)]; omega
      have b1 := rd_byte hb i
      by_cases c2 : i + 1 < l.length
      · have b2 := rd_byte hb ((i + 1 : Nat) : Int)
        have hm2 : ¬ Int.tmod ((i + 1 : Nat) : Int) 2 = 0 := by rw [Int.tmod_eq_emod_of_nonneg (by omega)]; omega
        have hw : wrap64 ((i : Int) + 1) = ((i + 1 : Nat) : Int) := by rw [wrap64_in (by omega) (by omega)]; omega
        have hw2 : wrap64 (((i + 1 : Nat) : Int) + 1) = ((i + 2 : Nat) : Int) := by rw [wrap64_in (by omega) (by omega)]; omega
        have e := wsum_drop2 l i c2
        have hr2 := wsum_drop_nonneg hb (i + 2)
        rw [e] at h1
        have g := ih (d - 2) (by omega) (i + 2) (s + (rd l i * 256 + rd l ((i + 1 : Nat) : Int))) (by omega) (by omega) (by omega) (by omega)
        have w1 : wrap64 (rd l i * 256) = rd l i * 256 := wrap64_in (by omega) (by omega)
        have w2 : wrap64 (s + rd l i * 256) = s + rd l i * 256 := wrap64_in (by omega) (by omega)
        have w3 : wrap64 (s + rd l i * 256 + rd l ((i + 1 : Nat) : Int)) = s + (rd l i * 256 + rd l ((i + 1 : Nat) : Int)) := by rw [wrap64_in (by omega) (by omega)]; omega
        rw [e, show s + (rd l i * 256 + rd l ((i + 1 : Nat) : Int) + wsum (l.drop (i + 2))) = s + (rd l i * 256 + rd l ((i + 1 : Nat) : Int)) + wsum (l.drop (i + 2)) from by omega]
        apply ev_succ
        simp only [spec_l01Sum.l0, hw, wrap_rd hb, w1, w2]
        refine ev_pos (by omega) (ev_pos hm (ev_pos (by omega) ?_))
        apply ev_succ
        simp only [spec_l01Sum.l0, hw2, wrap_rd hb, w3]
        exact ev_pos (by omega) (ev_neg hm2 (ev_pos (by omega) g))
      · have e := wsum_drop1 l i (by omega)
        rw [e] at h1
        rw [e]
        have hw : wrap64 ((i : Int) + 1) = ((i + 1 : Nat) : Int) := by rw [wrap64_in (by omega) (by omega)]; omega
        have w1 : wrap64 (rd l i * 256) = rd l i * 256 := wrap64_in (by omega) (by omega)
        have w2 : wrap64 (s + rd l i * 256) = s + rd l i * 256 := wrap64_in (by omega) (by omega)
        apply ev_succ
        simp only [spec_l01Sum.l0, hw, wrap_rd hb, w1, w2]
        refine ev_pos (by omega) (ev_pos hm (ev_pos (by omega) ?_))
        apply ev_succ
        simp only [spec_l01Sum.l0]
        refine ev_neg (by omega) ?_
        exact specSum_l1 (s + rd l i * 256).toNat _ (by omega) (by omega) (by omega)
    · have e := wsum_drop0 l i (by omega)
      rw [e] at h1
      rw [e]
      apply ev_succ
      simp only [spec_l01Sum.l0]
      refine ev_neg (by omega) ?_
      rw [Int.add_zero]
      exact specSum_l1 s.toNat s h0 (by omega) (by omega)
theorem specSum_ev {l : List Int} (hb : Bytes l) (hl : l.length ≤ 140737488355328) : Ev (fun k => spec_l01Sum.f k l) (csum l) := by
  have h := wsum_range l hb
  have g := specSum_l0 l hb hl l.length 0 0 (by omega) (by omega) (by omega) (by simp only [List.drop_zero]; omega)
  simp only [List.drop_zero, Int.zero_add] at g
  exact g
theorem implFold_l1 (d : Nat) : ∀ n : Int, 0 ≤ n → n ≤ 4611686018427387903 → n ≤ d → Ev (fun k => impl_foldSum.l1 k n) (fold n) := by
  induction d with
  | zero =>
    intro n h0 h1 h2
    rw [fold_small h0 (by omega)]
    apply ev_succ
    simp only [impl_foldSum.l1]
    exact ev_neg (by omega) (Ev.now _)
  | succ d ih =>
    intro n h0 h1 h2
    by_cases hn : n > 65535
    · have e2 : wrap64 ((Go.bits .and .i64 n 65535) + (n / 65536)) = n % 65536 + n / 65536 := by
        rw [and_65535 h0 (by omega), wrap64_in (by omega) (by omega)]
      have g := ih (n % 65536 + n / 65536) (by omega) (by omega) (by omega)
      rw [fold_step hn] at g
      apply ev_succ
      simp only [impl_foldSum.l1]
      refine ev_pos hn ?_
      rw [e2]
      exact g
    · rw [fold_small h0 (by omega)]
      apply ev_succ
      simp only [impl_foldSum.l1]
      exact ev_neg (by omega) (Ev.now _)
theorem implFold_l0 (l : List Int) (hb : Bytes l) (hl : l.length ≤ 1000000000) (d : Nat) : ∀ (i : Nat) (s : Int), l.length ≤ i + d → 0 ≤ s → s + wsum (l.drop i) ≤ 4611686018427387903 → Ev (fun k => impl_foldSum.l0 k l s i) (fold (s + wsum (l.drop i))) := by
  induction d using Nat.strongRecOn with
  | _ d ih =>
    intro i s hd h0 h1
    have hr := wsum_drop_nonneg hb i
    by_cases c : i < l.length
    · have b1 := rd_byte hb i
      have hw : wrap64 ((i : Int) + 1) = ((i + 1 : Nat) : Int) := by rw [wrap64_in (by omega) (by omega)]; omega
      have hw2 : wrap64 ((i : Int) + 2) = ((i + 2 : Nat) : Int) := by rw [wrap64_in (by omega) (by omega)]; omega
      have w1 : wrap64 (rd l i * 256) = rd l i * 256 := wrap64_in (by omega) (by omega)
      by_cases c2 : i + 1 < l.length
      · have b2 := rd_byte hb ((i + 1 : Nat) : Int)
        have e := wsum_drop2 l i c2
        have hr2 := wsum_drop_nonneg hb (i + 2)
        rw [e] at h1
        have g := ih (d - 2) (by omega) (i + 2) (s + (rd l i * 256 + rd l ((i + 1 : Nat) : Int))) (by omega) (by omega) (by omega)
        have w2 : wrap64 (s + rd l i * 256) = s + rd l i * 256 := wrap64_in (by omega) (by omega)
        have w3 : wrap64 (s + rd l i * 256 + rd l ((i + 1 : Nat) : Int)) = s + (rd l i * 256 + rd l ((i + 1 : Nat) : Int)) := by rw [wrap64_in (by omega) (by omega)]; omega
        rw [e, show s + (rd l i * 256 + rd l ((i + 1 : Nat) : Int) + wsum (l.drop (i + 2))) = s + (rd l i * 256 + rd l ((i + 1 : Nat) : Int)) + wsum (l.drop (i + 2)) from by omega]
        apply ev_succ
        simp only [impl_foldSum.l0, hw, hw2, wrap_rd hb, w1, w2, w3]
        exact ev_pos (by omega) (ev_pos (by omega) (ev_pos (by omega) (ev_pos (by omega) g)))
      · have e := wsum_drop1 l i (by omega)
        rw [e] at h1
        have g := ih (d - 1) (by omega) (i + 2) (s + rd l i * 256) (by omega) (by omega) (by rw [wsum_drop0 l (i + 2) (by omega)]; omega)
        rw [wsum_drop0 l (i + 2) (by omega), Int.add_zero] at g
        rw [e]
        have w2 : wrap64 (s + rd l i * 256) = s + rd l i * 256 := wrap64_in (by omega) (by omega)
        apply ev_succ
        simp only [impl_foldSum.l0, hw, hw2, wrap_rd hb, w1, w2]
        exact ev_pos (by omega) (ev_pos (by omega) (ev_neg (by omega) g))
    · have e := wsum_drop0 l i (by omega)
      rw [e] at h1
      rw [e]
      apply ev_succ
      simp only [impl_foldSum.l0]
      refine ev_neg (by omega) ?_
      rw [Int.add_zero]
      exact implFold_l1 s.toNat s h0 (by omega) (by omega)
theorem implFold_ev {l : List Int} (hb : Bytes l) (hl : l.length ≤ 1000000000) : Ev (fun k => impl_foldSum.f k l) (fold (wsum l)) := by
  have h := wsum_range l hb
  have g := implFold_l0 l hb hl l.length 0 0 (by omega) (by omega) (by simp only [List.drop_zero]; omega)
  simp only [List.drop_zero, Int.zero_add] at g
  exact g
theorem implSum_ev {l : List Int} (hb : Bytes l) (hl : l.length ≤ 1000000000) : Ev (fun k => impl_checkSum.f k l) (csum l) := by
  have h := fold_range (wsum_range l hb).1
  have e : wrap64 (65535 - fold (wsum l)) = csum l := by rw [wrap64_in (by omega) (by omega)]; rfl
  unfold impl_checkSum.f
  refine Ev.bind (implFold_ev hb hl) ?_
  rw [e]
  exact Ev.now _
/-! ### Is a packet right -/
/-- What a right packet of version 4 or 6 has, beside Hop, Proto and the size of its data. -/
def pktTail (v : Int) (fr dst : ByteArray) (id off : Int) (more keep : Bool) (n : Nat) : Bool :=
  if v = 4 then decide (fr.size = 4) && decide (dst.size = 4) && decide (0 ≤ id ∧ id ≤ 65535) && decide (0 ≤ off ∧ off ≤ 8191) && !(keep && (more || decide (off > 0))) && (!more || (decide (n % 8 = 0) && decide (n > 0))) && decide (8 * off + n ≤ 65515)
  else if v = 6 then decide (fr.size = 16) && decide (dst.size = 16) && decide (id = 0) && decide (off = 0) && !more && !keep else false
def pktOK (v : Int) (fr dst : ByteArray) (hop proto id off : Int) (more keep : Bool) (n : Nat) : Bool :=
  decide (n ≤ 1500) && decide (0 ≤ hop ∧ hop ≤ 255) && decide (0 ≤ proto ∧ proto ≤ 255) && pktTail v fr dst id off more keep n
theorem specPkt_ev (v : Int) (fr dst : ByteArray) (hop proto id off : Int) (more keep : Bool) (l : List Int) (hl : l.length ≤ 1048576) :
    Ev (fun k => spec_PacketOK.f k v fr dst hop proto id off more keep l) (pktOK v fr dst hop proto id off more keep l.length) := by
  have hw : 0 ≤ off ∧ off ≤ 8191 → wrap64 (wrap64 (8 * off) + (l.length : Int)) = 8 * off + l.length := fun h => by
    rw [wrap64_in (n := 8 * off) (by omega) (by omega), wrap64_in (by omega) (by omega)]
  have j0 : ∀ b, Ev (fun k => spec_PacketOK.j0 k b v fr dst hop proto id off more keep l) (!b && pktTail v fr dst id off more keep l.length) := by
    intro b
    apply ev_succ
    simp only [spec_PacketOK.j0, spec_in, Option.bind_some, pktTail]
    clear hl
    repeat' first
      | refine ev_ite (fun _ => ?_) (fun _ => ?_)
      | refine ev_fin ?_
    all_goals (simp_all <;> omega)
  unfold spec_PacketOK.f pktOK
  simp only [spec_in, Option.bind_some]
  refine ev_ite (fun h1 => ev_eq (j0 _) ?_) (fun h1 => ev_ite (fun h2 => ev_eq (j0 _) ?_) (fun h2 => ev_eq (j0 _) ?_))
  · have : ¬ l.length ≤ 1500 := by omega
    simp [this]
  · have h1' : l.length ≤ 1500 := by omega
    have h2' := of_decide_eq_true h2
    simp [h1', h2']
  · have h2' : ¬ (0 ≤ hop ∧ hop ≤ 255) := by simpa using h2
    simp [h2']
theorem implPkt_ev (v : Int) (fr dst : ByteArray) (hop proto id off : Int) (more keep : Bool) (l : List Int) (hl : l.length ≤ 1048576) :
    Ev (fun k => impl_PacketOK.f k v fr dst hop proto id off more keep l) (pktOK v fr dst hop proto id off more keep l.length) := by
  have hw : 0 ≤ off ∧ off ≤ 8191 → wrap64 (wrap64 (8 * off) + (l.length : Int)) = 8 * off + l.length := fun h => by
    rw [wrap64_in (n := 8 * off) (by omega) (by omega), wrap64_in (by omega) (by omega)]
  have j2 : v = 4 ∧ fr.size = 4 ∧ dst.size = 4 ∧ (0 ≤ id ∧ id ≤ 65535) ∧ (0 ≤ off ∧ off ≤ 8191) → ∀ b, b = (keep && (more || decide (off > 0))) → Ev (fun k => impl_PacketOK.j2 k b v fr dst hop proto id off more keep l) (pktTail v fr dst id off more keep l.length) := by
    intro ⟨h1, h2, h3, h4, h5⟩ b hb
    have hw' := hw h5
    apply ev_succ
    simp only [impl_PacketOK.j2, pktTail, hw']
    clear hl hw hw'
    generalize l.length = n
    repeat' first
      | refine ev_ite (fun _ => ?_) (fun _ => ?_)
      | refine ev_fin ?_
    all_goals (cases more <;> cases keep <;> simp_all <;> omega)
  have j1 : v = 4 → ∀ b, b = !(decide (fr.size = 4) && decide (dst.size = 4) && decide (0 ≤ id ∧ id ≤ 65535) && decide (0 ≤ off ∧ off ≤ 8191)) → Ev (fun k => impl_PacketOK.j1 k b v fr dst hop proto id off more keep l) (pktTail v fr dst id off more keep l.length) := by
    intro hv b hb
    apply ev_succ
    simp only [impl_PacketOK.j1]
    refine ev_ite (fun h => ev_fin ?_) (fun h => ?_)
    · rw [h] at hb
      simp only [pktTail, hv, if_true]
      rw [show (decide (fr.size = 4) && decide (dst.size = 4) && decide (0 ≤ id ∧ id ≤ 65535) && decide (0 ≤ off ∧ off ≤ 8191)) = false from (Bool.not_eq_true' _).mp hb.symm]
      simp
    · have hb' : b = false := by simpa using h
      rw [hb'] at hb
      have hq : fr.size = 4 ∧ dst.size = 4 ∧ (0 ≤ id ∧ id ≤ 65535) ∧ (0 ≤ off ∧ off ≤ 8191) := by simpa [and_assoc] using hb.symm
      refine ev_ite (fun hk => ev_ite (fun hm => j2 ⟨hv, hq⟩ _ (by simp [hk, hm])) (fun hm => j2 ⟨hv, hq⟩ _ ?_)) (fun hk => j2 ⟨hv, hq⟩ _ (by simp at hk; simp [hk]))
      simp at hm
      simp [hk, hm]
  have j0 : ∀ b, Ev (fun k => impl_PacketOK.j0 k b v fr dst hop proto id off more keep l) (!b && pktTail v fr dst id off more keep l.length) := by
    intro b
    apply ev_succ
    simp only [impl_PacketOK.j0, impl_in, Option.bind_some]
    refine ev_ite (fun hb => ev_fin (by simp [hb])) (fun hb => ?_)
    have hb' : b = false := by simpa using hb
    simp only [hb', Bool.not_false, Bool.true_and]
    refine ev_ite (fun hv => ?_) (fun hv => ?_)
    · repeat' first
        | refine ev_ite (fun _ => ?_) (fun _ => ?_)
        | refine j1 hv _ ?_
      all_goals (clear j1 j2 hw; simp_all <;> omega)
    · simp only [pktTail, if_neg hv]
      clear j1 j2 hw
      repeat' first
        | refine ev_ite (fun _ => ?_) (fun _ => ?_)
        | refine ev_fin ?_
      all_goals (simp_all <;> omega)
  unfold impl_PacketOK.f pktOK
  simp only [impl_in, Option.bind_some]
  refine ev_ite (fun h1 => ev_ite (fun h2 => ev_eq (j0 _) ?_) (fun h2 => ev_eq (j0 _) ?_)) (fun h1 => ev_eq (j0 _) ?_)
  · have h1' := of_decide_eq_true h1
    have h2' := of_decide_eq_true h2
    have e : decide ((l.length : Int) > 1500) = !decide (l.length ≤ 1500) := by
      by_cases h : l.length ≤ 1500
      · simp [h]
        omega
      · simp [h]
        omega
    rw [e, Bool.not_not]
    simp [h1', h2']
  · have h2' : ¬ (0 ≤ proto ∧ proto ≤ 255) := by simpa using h2
    simp [h2']
  · have h1' : ¬ (0 ≤ hop ∧ hop ≤ 255) := by simpa using h1
    simp [h1']
theorem szBytes_ev (l : List Int) (a : Int) : laws_szByteS.f l a = some (if wrap64 (a - (l.length : Int)) < 0 then -1 else wrap64 (a - (l.length : Int))) := by
  unfold laws_szByteS.f
  split <;> rfl
/-- The size of a packet: below nothing, or its data are no more than a MiB. -/
theorem szPacket_ev (v : Int) (fr dst : ByteArray) (hop proto id off : Int) (more keep : Bool) (l : List Int) (h1 : fr.size ≤ maxLen) (h2 : dst.size ≤ maxLen) (h3 : l.length ≤ maxLen) :
    ∃ r, laws_szPacket.f v fr dst hop proto id off more keep l 1048576 = some r ∧ (r < 0 ∨ l.length ≤ 1048576 ∧ fr.size ≤ 1048576 ∧ dst.size ≤ 1048576) := by
  unfold maxLen at h1 h2 h3
  unfold laws_szPacket.f
  rw [wrap64_in (n := 1048576 - (fr.size : Int)) (by omega) (by omega)]
  by_cases c1 : 1048576 - (fr.size : Int) < 0
  · rw [if_pos c1]
    exact ⟨-1, rfl, .inl (by omega)⟩
  · rw [if_neg c1, wrap64_in (n := 1048576 - (fr.size : Int) - (dst.size : Int)) (by omega) (by omega)]
    by_cases c2 : 1048576 - (fr.size : Int) - (dst.size : Int) < 0
    · rw [if_pos c2]
      exact ⟨-1, rfl, .inl (by omega)⟩
    · rw [if_neg c2, szBytes_ev, wrap64_in (n := 1048576 - (fr.size : Int) - (dst.size : Int) - (l.length : Int)) (by omega) (by omega)]
      simp only [Option.bind_some]
      by_cases c3 : 1048576 - (fr.size : Int) - (dst.size : Int) - (l.length : Int) < 0
      · rw [if_pos c3]
        exact ⟨-1, rfl, .inl (by omega)⟩
      · rw [if_neg c3, if_neg c3]
        exact ⟨_, rfl, .inr (by omega)⟩
theorem toPacket_ev (v : Int) (fr dst : ByteArray) (hop proto id off : Int) (more keep : Bool) {l : List Int} (hl : l.length ≤ 140737488355328) :
    Ev (fun k => laws_toPacket.f k v fr dst hop proto id off more keep l) (v, fr, dst, hop, proto, id, off, more, keep, l) := by
  unfold laws_toPacket.f
  exact Ev.bind (toByteS_ev hl) (Ev.now _)
theorem eqPacket_ev (v : Int) (fr dst : ByteArray) (hop proto id off : Int) (more keep : Bool) {l : List Int} (hl : l.length ≤ 140737488355328) :
    Ev (fun k => laws_eqPacket.f k v fr dst hop proto id off more keep l v fr dst hop proto id off more keep l) true := by
  unfold laws_eqPacket.f
  simp only [if_true, bne_self_eq_false, Bool.false_eq_true, if_false]
  exact Ev.bind (eqByteS_ev hl) (ev_pos rfl (Ev.now _))
/-! ### A number in two bytes; two bytes written into a row -/
def two (n : Int) : List Int := [(n / 256) % 256, n % 256]
theorem two_length (n : Int) : (two n).length = 2 := rfl
theorem two_bytes (n : Int) : Bytes (two n) := by
  intro x hx
  simp only [two, List.mem_cons, List.not_mem_nil, or_false] at hx
  omega
theorem specTwo_ev {n : Int} (h0 : 0 ≤ n) (h1 : n ≤ 1000000000) : spec_l01Two.f n = some (two n) := by
  unfold spec_l01Two.f two
  rw [Int.tdiv_eq_ediv_of_nonneg h0, Int.tmod_eq_emod_of_nonneg h0, wrap64_in (by omega) (by omega)]
  rw [show n % 256 % 256 = n % 256 by omega]
theorem implTwo_ev (n : Int) : impl_word16.f n = some (two n) := rfl
theorem copyAt_two (xs : List Int) (k : Nat) (a b : Int) (h : k + 2 ≤ xs.length) : copyAt xs k [a, b] = (xs.set k a).set (k + 1) b := by
  unfold copyAt
  rw [List.take_of_length_le (show ([a, b] : List Int).length ≤ xs.length - k by simp only [List.length_cons, List.length_nil]; omega)]
  apply List.ext_getElem?
  intro q
  have e : (xs.take k).length = k := by rw [List.length_take]; omega
  rcases Nat.lt_or_ge q k with h1 | h1
  · rw [List.getElem?_append_left (by omega), List.getElem?_take, if_pos h1, List.getElem?_set_ne (by omega), List.getElem?_set_ne (by omega)]
  · rw [List.getElem?_append_right (by omega), e]
    by_cases h2 : q = k
    · subst h2
      rw [Nat.sub_self, List.getElem?_set_ne (by omega), List.getElem?_set_self (by omega)]
      rfl
    · by_cases h3 : q = k + 1
      · subst h3
        rw [show k + 1 - k = 1 by omega, List.getElem?_set_self (by simp; omega)]
        rfl
      · rw [List.getElem?_append_right (by simp; omega), List.getElem?_drop, List.getElem?_set_ne (by omega), List.getElem?_set_ne (by omega)]
        congr 1
        simp
        omega
/-! ### A packet's bytes -/
def flagsOf (off : Int) (more keep : Bool) : Int := (if keep then 16384 else 0) + (if more then 8192 else 0) + off
def head6 (fr dst : ByteArray) (hop proto : Int) (n : Nat) : List Int := ((([96, 0, 0, 0] ++ two n) ++ [proto % 256, hop % 256]) ++ bytesOf fr) ++ bytesOf dst
def body4 (fr dst : ByteArray) (hop proto id off : Int) (more keep : Bool) (n : Nat) : List Int :=
  (((((([69, 0] ++ two (20 + (n : Int))) ++ two id) ++ two (flagsOf off more keep)) ++ [hop % 256, proto % 256, 0, 0]) ++ bytesOf fr) ++ bytesOf dst)
def head4 (fr dst : ByteArray) (hop proto id off : Int) (more keep : Bool) (n : Nat) : List Int :=
  ((body4 fr dst hop proto id off more keep n).set 10 (csum (body4 fr dst hop proto id off more keep n) / 256)).set 11 (csum (body4 fr dst hop proto id off more keep n) % 256)
def pktBytes (v : Int) (fr dst : ByteArray) (hop proto id off : Int) (more keep : Bool) (l : List Int) : List Int :=
  if v = 6 then head6 fr dst hop proto l.length ++ l else head4 fr dst hop proto id off more keep l.length ++ l
def pktRes (v : Int) (fr dst : ByteArray) (hop proto id off : Int) (more keep : Bool) (l : List Int) : List Int × Int :=
  if pktOK v fr dst hop proto id off more keep l.length = true then (pktBytes v fr dst hop proto id off more keep l, 0) else ([], 1)
theorem mod_byte (x : Int) : 0 ≤ x % 256 ∧ x % 256 ≤ 255 := by omega
theorem body4_bytes (fr dst : ByteArray) (hop proto id off : Int) (more keep : Bool) (n : Nat) : Bytes (body4 fr dst hop proto id off more keep n) := by
  unfold body4
  have z : (0 : Int) ≤ 0 ∧ (0 : Int) ≤ 255 := by omega
  exact ((((((Bytes.cons (by omega) (Bytes.cons z Bytes.nil)).append (two_bytes _)).append (two_bytes _)).append (two_bytes _)).append (Bytes.cons (mod_byte _) (Bytes.cons (mod_byte _) (Bytes.cons z (Bytes.cons z Bytes.nil))))).append (bytesOf_bytes _)).append (bytesOf_bytes _)
theorem body4_length (fr dst : ByteArray) (hop proto id off : Int) (more keep : Bool) (n : Nat) : (body4 fr dst hop proto id off more keep n).length = 12 + fr.size + dst.size := by
  simp [body4, two, bytesOf_length]
  omega
theorem head6_length (fr dst : ByteArray) (hop proto : Int) (n : Nat) : (head6 fr dst hop proto n).length = 8 + fr.size + dst.size := by
  simp [head6, two, bytesOf_length]
  omega
theorem head4_length (fr dst : ByteArray) (hop proto id off : Int) (more keep : Bool) (n : Nat) : (head4 fr dst hop proto id off more keep n).length = 12 + fr.size + dst.size := by
  simp [head4, body4_length]
theorem pkt_cases {v : Int} {fr dst : ByteArray} {hop proto id off : Int} {more keep : Bool} {n : Nat} (h : pktOK v fr dst hop proto id off more keep n = true) :
    n ≤ 1500 ∧ (0 ≤ hop ∧ hop ≤ 255) ∧ (0 ≤ proto ∧ proto ≤ 255) ∧ ((v = 4 ∧ fr.size = 4 ∧ dst.size = 4 ∧ (0 ≤ id ∧ id ≤ 65535) ∧ (0 ≤ off ∧ off ≤ 8191)) ∨ (v = 6 ∧ fr.size = 16 ∧ dst.size = 16)) := by
  unfold pktOK pktTail at h
  simp only [Bool.and_eq_true, decide_eq_true_eq] at h
  obtain ⟨⟨⟨h1, h2⟩, h3⟩, h4⟩ := h
  refine ⟨h1, h2, h3, ?_⟩
  by_cases c4 : v = 4
  · rw [if_pos c4] at h4
    simp only [Bool.and_eq_true, decide_eq_true_eq] at h4
    left
    omega
  · rw [if_neg c4] at h4
    by_cases c6 : v = 6
    · rw [if_pos c6] at h4
      simp only [Bool.and_eq_true, decide_eq_true_eq] at h4
      right
      omega
    · rw [if_neg c6] at h4
      cases h4
theorem pktRes_length (v : Int) (fr dst : ByteArray) (hop proto id off : Int) (more keep : Bool) (l : List Int) : (pktRes v fr dst hop proto id off more keep l).1.length ≤ 2000 := by
  unfold pktRes
  split
  · rename_i h
    obtain ⟨h1, _, _, h2⟩ := pkt_cases h
    unfold pktBytes
    split
    · simp only [List.length_append, head6_length]
      omega
    · simp only [List.length_append, head4_length]
      omega
  · simp
theorem specBytes_ev {v : Int} {fr dst : ByteArray} {hop proto id off : Int} {more keep : Bool} {l : List Int} (hok : pktOK v fr dst hop proto id off more keep l.length = true) :
    Ev (fun k => spec_l01Bytes.f k v fr dst hop proto id off more keep l) (pktBytes v fr dst hop proto id off more keep l) := by
  obtain ⟨hl, hh, hp, hc⟩ := pkt_cases hok
  unfold spec_l01Bytes.f pktBytes
  by_cases c6 : v = 6
  · rw [if_pos c6]
    refine ev_pos c6 (ev_some (ev_bindc (specTwo_ev (n := (l.length : Int)) (by omega) (by omega)) (ev_pos (by simp [two]) (ev_some (ev_some (ev_pos (by simp [two]) (ev_some (ev_pos ?_ (ev_some (ev_pos ?_ (ev_some (ev_pos ?_ (Ev.now _)))))))))))))
    · simp [two]; omega
    · simp [two, bytesOf_length]; omega
    · simp [two, bytesOf_length]; omega
  · rw [if_neg c6]
    have hc4 : v = 4 ∧ fr.size = 4 ∧ dst.size = 4 ∧ (0 ≤ id ∧ id ≤ 65535) ∧ (0 ≤ off ∧ off ≤ 8191) := by omega
    have hw : wrap64 (20 + (l.length : Int)) = 20 + (l.length : Int) := wrap64_in (by omega) (by omega)
    have hb := body4_bytes fr dst hop proto id off more keep l.length
    have hbl := body4_length fr dst hop proto id off more keep l.length
    have hcs := csum_range hb
    have hk : spec_l01Bit.f keep 16384 = some (if keep then 16384 else 0) := by unfold spec_l01Bit.f; cases keep <;> rfl
    have hm : spec_l01Bit.f more 8192 = some (if more then 8192 else 0) := by unfold spec_l01Bit.f; cases more <;> rfl
    have hf : wrap64 ((wrap64 ((if keep then 16384 else 0) + (if more then 8192 else 0))) + off) = flagsOf off more keep := by
      unfold flagsOf
      have : 0 ≤ ((if keep then 16384 else 0 : Int)) ∧ ((if keep then 16384 else 0 : Int)) ≤ 16384 := by cases keep <;> simp
      have : 0 ≤ ((if more then 8192 else 0 : Int)) ∧ ((if more then 8192 else 0 : Int)) ≤ 8192 := by cases more <;> simp
      rw [wrap64_in (n := (if keep then 16384 else 0) + (if more then 8192 else 0)) (by omega) (by omega), wrap64_in (by omega) (by omega)]
    have hfr : 0 ≤ flagsOf off more keep ∧ flagsOf off more keep ≤ 40000 := by
      unfold flagsOf
      cases keep <;> cases more <;> simp <;> omega
    have fin : ∀ y : List Int, y = body4 fr dst hop proto id off more keep l.length → Ev (fun k => (spec_l01Sum.f k y).bind fun t177 => (if 10 < (y.length : Int) then (if 11 < (y.length : Int) then ((some ((y.set (10 : Int).toNat ((wrap64 (Int.tdiv t177 256)) % 256)).set (11 : Int).toNat ((Int.tmod t177 256) % 256) : List Int)).bind fun y179 => (if y179.length + l.length < 140737488355328 then (some (y179 ++ l)) else (none))) else (none)) else (none))) (head4 fr dst hop proto id off more keep l.length ++ l) := by
      rintro y rfl
      refine Ev.bind (specSum_ev hb (by omega)) (ev_pos (by omega) (ev_pos (by omega) ?_))
      have w1 : (wrap64 (Int.tdiv (csum (body4 fr dst hop proto id off more keep l.length)) 256)) % 256 = csum (body4 fr dst hop proto id off more keep l.length) / 256 := by
        rw [Int.tdiv_eq_ediv_of_nonneg hcs.1, wrap64_in (by omega) (by omega)]
        omega
      have w2 : (Int.tmod (csum (body4 fr dst hop proto id off more keep l.length)) 256) % 256 = csum (body4 fr dst hop proto id off more keep l.length) % 256 := by
        rw [Int.tmod_eq_emod_of_nonneg hcs.1]
        omega
      rw [w1, w2]
      exact ev_some (ev_pos (by simp [hbl]; omega) (Ev.now _))
    rw [hw]
    refine ev_neg c6 (ev_some (ev_bindc (specTwo_ev (n := 20 + (l.length : Int)) (by omega) (by omega)) (ev_pos (by simp [two]) (ev_some (ev_bindc (specTwo_ev (n := id) (by omega) (by omega)) (ev_pos (by simp [two]) (ev_some (ev_bindc hk (ev_bindc hm ?_)))))))))
    rw [hf]
    refine ev_bindc (specTwo_ev hfr.1 (by omega)) (ev_pos (by simp [two]) (ev_some (ev_some (ev_pos (by simp [two]) (ev_some (ev_pos ?_ (ev_some (ev_pos ?_ (ev_some ?_)))))))))
    · simp [two]; omega
    · simp [two, bytesOf_length]; omega
    · exact fin _ rfl
theorem implBytes_ev {v : Int} {fr dst : ByteArray} {hop proto id off : Int} {more keep : Bool} {l : List Int} (hok : pktOK v fr dst hop proto id off more keep l.length = true) :
    Ev (fun k => impl_packetBytes.f k v fr dst hop proto id off more keep l) (pktBytes v fr dst hop proto id off more keep l) := by
  obtain ⟨hl, hh, hp, hc⟩ := pkt_cases hok
  unfold impl_packetBytes.f pktBytes
  by_cases c6 : v = 6
  · rw [if_pos c6]
    refine ev_pos c6 (ev_some (ev_bindc (implTwo_ev (l.length : Int)) (ev_pos (by simp [two]) (ev_some (ev_some (ev_pos (by simp [two]) (ev_some (ev_pos ?_ (ev_some (ev_pos ?_ (ev_some (ev_pos ?_ (Ev.now _)))))))))))))
    · simp [two]; omega
    · simp [two, bytesOf_length]; omega
    · simp [two, bytesOf_length]; omega
  · rw [if_neg c6]
    have hc4 : v = 4 ∧ fr.size = 4 ∧ dst.size = 4 ∧ (0 ≤ id ∧ id ≤ 65535) ∧ (0 ≤ off ∧ off ≤ 8191) := by omega
    have hw : wrap64 (20 + (l.length : Int)) = 20 + (l.length : Int) := wrap64_in (by omega) (by omega)
    have hb := body4_bytes fr dst hop proto id off more keep l.length
    have hbl := body4_length fr dst hop proto id off more keep l.length
    have hcs := csum_range hb
    have fin : ∀ y : List Int, y = body4 fr dst hop proto id off more keep l.length → Ev (fun k => (impl_checkSum.f k y).bind fun t275 => ((impl_word16.f t275).bind fun t276 => ((some (copyAt y (10 : Int).toNat t276 : List Int)).bind fun y279 => (if y279.length + l.length < 140737488355328 then (some (y279 ++ l)) else (none))))) (head4 fr dst hop proto id off more keep l.length ++ l) := by
      rintro y rfl
      refine Ev.bind (implSum_ev hb (by omega)) (ev_bindc (implTwo_ev _) ?_)
      have w1 : (csum (body4 fr dst hop proto id off more keep l.length) / 256) % 256 = csum (body4 fr dst hop proto id off more keep l.length) / 256 := by omega
      have e : copyAt (body4 fr dst hop proto id off more keep l.length) (10 : Int).toNat (two (csum (body4 fr dst hop proto id off more keep l.length))) = head4 fr dst hop proto id off more keep l.length := by
        unfold two head4
        rw [w1]
        exact copyAt_two _ 10 _ _ (by omega)
      rw [e]
      exact ev_some (ev_pos (by rw [head4_length]; omega) (Ev.now _))
    have j1 : ∀ x, x = flagsOf off more keep → Ev (fun k => impl_packetBytes.j1 k x v fr dst hop proto id off more keep l) (head4 fr dst hop proto id off more keep l.length ++ l) := by
      rintro x rfl
      apply ev_succ
      simp only [impl_packetBytes.j1]
      rw [hw]
      refine ev_some ?_
      refine ev_bindc (implTwo_ev _) (ev_pos (by simp [two]) (ev_some ?_))
      refine ev_bindc (implTwo_ev _) (ev_pos (by simp [two]) (ev_some ?_))
      refine ev_bindc (implTwo_ev _) (ev_pos (by simp [two]) (ev_some ?_))
      refine ev_some (ev_pos (by simp [two]) (ev_some ?_))
      refine ev_pos (by simp [two]; omega) (ev_some ?_)
      refine ev_pos (by simp [two, bytesOf_length]; omega) (ev_some ?_)
      refine ev_pos (by simp [two, bytesOf_length]; omega) ?_
      exact fin _ rfl
    have j0 : ∀ x, x = (if keep then 16384 else 0) + off → Ev (fun k => impl_packetBytes.j0 k x v fr dst hop proto id off more keep l) (head4 fr dst hop proto id off more keep l.length ++ l) := by
      intro x hx
      apply ev_succ
      simp only [impl_packetBytes.j0]
      have : 0 ≤ ((if keep then 16384 else 0 : Int)) ∧ ((if keep then 16384 else 0 : Int)) ≤ 16384 := by cases keep <;> simp
      refine ev_ite (fun hm => ?_) (fun hm => ?_)
      · exact j1 _ (by rw [wrap64_in (by omega) (by omega), hx]; unfold flagsOf; rw [if_pos hm]; omega)
      · exact j1 _ (by rw [hx]; unfold flagsOf; rw [if_neg hm]; omega)
    refine ev_neg c6 (ev_ite (fun hk => ?_) (fun hk => ?_))
    · exact j0 _ (by rw [wrap64_in (by omega) (by omega), if_pos hk]; omega)
    · exact j0 _ (by rw [if_neg hk]; omega)
theorem specPB_ev (v : Int) (fr dst : ByteArray) (hop proto id off : Int) (more keep : Bool) (l : List Int) (hl : l.length ≤ 1048576) :
    Ev (fun k => spec_PacketBytes.f k v fr dst hop proto id off more keep l) (pktRes v fr dst hop proto id off more keep l) := by
  unfold spec_PacketBytes.f pktRes
  refine Ev.bind (specPkt_ev v fr dst hop proto id off more keep l hl) ?_
  by_cases h : pktOK v fr dst hop proto id off more keep l.length = true
  · rw [if_pos h]
    exact ev_pos h (Ev.bind (specBytes_ev h) (Ev.now _))
  · rw [if_neg h]
    exact ev_neg h (Ev.now _)
theorem implPB_ev (v : Int) (fr dst : ByteArray) (hop proto id off : Int) (more keep : Bool) (l : List Int) (hl : l.length ≤ 1048576) :
    Ev (fun k => impl_PacketBytes.f k v fr dst hop proto id off more keep l) (pktRes v fr dst hop proto id off more keep l) := by
  unfold impl_PacketBytes.f pktRes
  refine Ev.bind (implPkt_ev v fr dst hop proto id off more keep l hl) ?_
  by_cases h : pktOK v fr dst hop proto id off more keep l.length = true
  · rw [if_pos h]
    exact ev_pos h (Ev.bind (implBytes_ev h) (Ev.now _))
  · rw [if_neg h]
    exact ev_neg h (Ev.now _)

theorem markPacket_ev (v : Int) (fr dst : ByteArray) (hop proto id off : Int) (more keep : Bool) {l : List Int} (hl : l.length ≤ 140737488355328) :
    Ev (fun k => laws_markPacket.f k v fr dst hop proto id off more keep l 1) (1 + l.length, markL l.length 1) := by
  unfold laws_markPacket.f
  exact Ev.bind (mark_ev hl (by omega)) (Ev.now _)

theorem FnExactPacketBytes : SaysFnExactPacketBytes.Says := by
  intro v fr dst hop proto id off more keep l h0 h1 h2 h3 h4 h5 h6 h7 h8 h9
  refine Ev.rounds (g := fun k => laws_FnExactPacketBytes.f k v fr dst hop proto id off more keep l) ?_
  unfold laws_FnExactPacketBytes.f
  obtain ⟨z, hz, hz2⟩ := szPacket_ev v fr dst hop proto id off more keep l h1 h2 h9.1
  refine ev_bindc hz (ev_ite (fun _ => Ev.now _) (fun hz0 => ?_))
  have hl : l.length ≤ 140737488355328 := by omega
  have hl2 : l.length ≤ 1048576 := by omega
  have g1 := specPB_ev v fr dst hop proto id off more keep l hl2
  have g2 := implPB_ev v fr dst hop proto id off more keep l hl2
  have hq := pktRes_length v fr dst hop proto id off more keep l
  generalize pktRes v fr dst hop proto id off more keep l = r at g1 g2 hq
  obtain ⟨d, c⟩ := r
  have hd : d.length ≤ 140737488355328 := by simp only at hq; omega
  have t1 := toPacket_ev v fr dst hop proto id off more keep hl
  have e1 := eqPacket_ev v fr dst hop proto id off more keep hl
  have m1 := markPacket_ev v fr dst hop proto id off more keep hl
  refine Ev.bind t1 (Ev.bind g1 (Ev.bind t1 (Ev.bind g2 (Ev.bind (eqByteS_ev hd) (ev_pos rfl ?_)))))
  simp only [bne_self_eq_false]
  apply ev_succ
  simp only [laws_FnExactPacketBytes.j0, Bool.false_eq_true, if_false, bne_self_eq_false]
  refine Ev.bind t1 (Ev.bind e1 (ev_pos rfl (Ev.bind m1 (ev_neg (by simp only; omega) (Ev.bind (eqByteS_ev hd) (ev_pos rfl ?_))))))
  apply ev_succ
  simp only [laws_FnExactPacketBytes.j1, Bool.false_eq_true, if_false]
  refine Ev.bind (mark_ev hd (by omega)) (Ev.bind (held_ev d.length hd (by omega)) (ev_neg (by omega) (ev_pos rfl ?_)))
  refine Ev.bind t1 (Ev.bind g2 (Ev.bind (eqByteS_ev hd) (ev_pos rfl ?_)))
  simp only [bne_self_eq_false]
  apply ev_succ
  simp only [laws_FnExactPacketBytes.j2, Bool.false_eq_true, if_false]
  exact Ev.bind (held_ev d.length hd (by omega)) (ev_neg (by omega) (ev_pos rfl (Ev.now _)))

end Go.Proofs.Ytjfpkfophfelmaa.Pure
