/- The program's PacketOK answers what the reference's answers, for every packet; no condition. -/
import Derived.Test.YtblmghlopolknaaSaysFnExactPacketOK
import Derived.Test.YtblmghlopolknaaAid
namespace Go.Proofs.Ytblmghlopolknaa.Pure
open Go.RowKit Go.Proofs.Ytblmghlopolknaa.PFnExactPacketOK Go.Proofs.YtblmghlopolknaaW.PrintWords Go.Proofs.YtblmghlopolknaaW.PrintLast Go.Proofs.Ytblmghlopolknaa.Aid

theorem spec_in (a b c : Int) : spec_l01In.f a b c = some (decide (b ≤ a ∧ a ≤ c)) := by
  unfold spec_l01In.f
  split <;> simp <;> omega
theorem impl_in (a b c : Int) : impl_inRange.f a b c = some (decide (b ≤ a ∧ a ≤ c)) := by
  unfold impl_inRange.f
  split <;> simp <;> omega
/-! ### toByteS, eqByteS: a copy; whether two lists are alike -/
theorem toByteS_loop (l : List Int) (hl : l.length ≤ 140737488355328) (d : Nat) : ∀ (acc : List Int) (i : Nat), acc.length = l.length → acc.take i = l.take i → i + d = l.length → Ev (fun k => laws_toByteS.l0 k l acc i) l := by
  induction d with
  | zero =>
    intro acc i h1 h2 h3
    have e : acc = l := by
      rw [List.take_of_length_le (by omega), List.take_of_length_le (by omega)] at h2
      exact h2
    subst e
    apply ev_succ
    simp only [laws_toByteS.l0]
    exact ev_neg (by omega) (Ev.now _)
  | succ d ih =>
    intro acc i h1 h2 h3
    have hw : wrap64 ((i : Int) + 1) = ((i + 1 : Nat) : Int) := by rw [wrap64_in (by omega) (by omega)]; omega
    apply ev_succ
    simp only [laws_toByteS.l0, hw]
    refine ev_pos (by omega) (ev_pos (by omega) (ev_pos (by omega) ?_))
    refine ih _ (i + 1) (by simp [h1]) ?_ (by omega)
    have hi : i < l.length := by omega
    have hj : i < acc.length := by omega
    rw [List.take_succ_eq_append_getElem (by simpa using hj), List.take_succ_eq_append_getElem hi, rd_at l rfl hi]
    simp [List.take_set_of_le, h2]
theorem toByteS_ev {l : List Int} (hl : l.length ≤ 140737488355328) : Ev (fun k => laws_toByteS.f k l) l := by
  unfold laws_toByteS.f
  refine ev_pos (by omega) (ev_pos (by omega) ?_)
  exact toByteS_loop l hl l.length _ 0 (by simp) (by simp) (by omega)
theorem eqByteS_loop (l : List Int) (hl : l.length ≤ 140737488355328) (d : Nat) : ∀ (i : Nat), i + d = l.length → Ev (fun k => laws_eqByteS.l0 k l l i) true := by
  induction d with
  | zero =>
    intro i h
    apply ev_succ
    simp only [laws_eqByteS.l0]
    exact ev_neg (by omega) (Ev.now _)
  | succ d ih =>
    intro i h
    have hw : wrap64 ((i : Int) + 1) = ((i + 1 : Nat) : Int) := by rw [wrap64_in (by omega) (by omega)]; omega
    apply ev_succ
    simp only [laws_eqByteS.l0, hw]
    exact ev_pos (by omega) (ev_pos (by omega) (ev_pos (by omega) (ev_pos trivial (ih (i + 1) (by omega)))))
theorem eqByteS_ev {l : List Int} (hl : l.length ≤ 140737488355328) : Ev (fun k => laws_eqByteS.f k l l) true := by
  unfold laws_eqByteS.f
  exact ev_pos rfl (eqByteS_loop l hl l.length 0 (by omega))
/-! ### Is a packet right -/
/-- What a right packet of version 4 or 6 has, beside Hop, Proto and the size of its data. -/
def pktTail (v : Int) (fr dst : ByteArray) (id off : Int) (more keep : Bool) (n : Nat) : Bool :=
  if v = 4 then decide (fr.size = 4) && decide (dst.size = 4) && decide (0 ≤ id ∧ id ≤ 65535) && decide (0 ≤ off ∧ off ≤ 8191) && !(keep && (more || decide (off > 0))) && (!more || (decide (n % 8 = 0) && decide (n > 0))) && decide (8 * off + n ≤ 65515)
  else if v = 6 then decide (fr.size = 16) && decide (dst.size = 16) && decide (id = 0) && decide (off = 0) && !more && !keep else false
def pktOK (v : Int) (fr dst : ByteArray) (hop proto id off : Int) (more keep : Bool) (n : Nat) : Bool :=
  decide (n ≤ 1500) && decide (0 ≤ hop ∧ hop ≤ 255) && decide (0 ≤ proto ∧ proto ≤ 255) && pktTail v fr dst id off more keep n
theorem specPkt_ev (v : Int) (fr dst : ByteArray) (hop proto id off : Int) (more keep : Bool) (l : List Int) (hl : l.length ≤ 1048576) :
    Ev (fun k => spec_PacketOK.f k v fr dst hop proto id off more keep l) (pktOK v fr dst hop proto id off more keep l.length) := by
  have hw : 0 ≤ off ∧ off ≤ 8191 → wrap64 (wrap64 (8 * off) + (l.length : Int)) = 8 * off + l.length := fun h => by
    rw [wrap64_in (n := 8 * off) (by omega) (by omega), wrap64_in (by omega) (by omega)]
  have j0 : ∀ b, Ev (fun k => spec_PacketOK.j0 k b v fr dst hop proto id off more keep l) (!b && pktTail v fr dst id off more keep l.length) := by
    intro b
    apply ev_succ
    simp only [spec_PacketOK.j0, spec_in, Option.bind_some, pktTail]
    clear hl
    repeat' first
      | refine ev_ite (fun _ => ?_) (fun _ => ?_)
      | refine ev_fin ?_
    all_goals (simp_all <;> omega)
  unfold spec_PacketOK.f pktOK
  simp only [spec_in, Option.bind_some]
  refine ev_ite (fun h1 => ev_eq (j0 _) ?_) (fun h1 => ev_ite (fun h2 => ev_eq (j0 _) ?_) (fun h2 => ev_eq (j0 _) ?_))
  · have : ¬ l.length ≤ 1500 := by omega
    simp [this]
  · have h1' : l.length ≤ 1500 := by omega
    have h2' := of_decide_eq_true h2
    simp [h1', h2']
  · have h2' : ¬ (0 ≤ hop ∧ hop ≤ 255) := by simpa using h2
    simp [h2']
theorem implPkt_ev (v : Int) (fr dst : ByteArray) (hop proto id off : Int) (more keep : Bool) (l : List Int) (hl : l.length ≤ 1048576) :
    Ev (fun k => impl_PacketOK.f k v fr dst hop proto id off more keep l) (pktOK v fr dst hop proto id off more keep l.length) := by
  have hw : 0 ≤ off ∧ off ≤ 8191 → wrap64 (wrap64 (8 * off) + (l.length : Int)) = 8 * off + l.length := fun h => by
    rw [wrap64_in (n := 8 * off) (by omega) (by omega), wrap64_in (by omega) (by omega)]
  have j2 : v = 4 ∧ fr.size = 4 ∧ dst.size = 4 ∧ (0 ≤ id ∧ id ≤ 65535) ∧ (0 ≤ off ∧ off ≤ 8191) → ∀ b, b = (keep && (more || decide (off > 0))) → Ev (fun k => impl_PacketOK.j2 k b v fr dst hop proto id off more keep l) (pktTail v fr dst id off more keep l.length) := by
    intro ⟨h1, h2, h3, h4, h5⟩ b hb
    have hw' := hw h5
    apply ev_succ
    simp only [impl_PacketOK.j2, pktTail, hw']
    clear hl hw hw'
    generalize l.length = n
    repeat' first
      | refine ev_ite (fun _ => ?_) (fun _ => ?_)
      | refine ev_fin ?_
    all_goals (cases more <;> cases keep <;> simp_all <;> omega)
  have j1 : v = 4 → ∀ b, b = !(decide (fr.size = 4) && decide (dst.size = 4) && decide (0 ≤ id ∧ id ≤ 65535) && decide (0 ≤ off ∧ off ≤ 8191)) → Ev (fun k => impl_PacketOK.j1 k b v fr dst hop proto id off more keep l) (pktTail v fr dst id off more keep l.length) := by
    intro hv b hb
    apply ev_succ
    simp only [impl_PacketOK.j1]
    refine ev_ite (fun h => ev_fin ?_) (fun h => ?_)
    · rw [h] at hb
      simp only [pktTail, hv, if_true]
      rw [show (decide (fr.size = 4) && decide (dst.size = 4) && decide (0 ≤ id ∧ id ≤ 65535) && decide (0 ≤ off ∧ off ≤ 8191)) = false from (Bool.not_eq_true' _).mp hb.symm]
      simp
    · have hb' : b = false := by simpa using h
      rw [hb'] at hb
      have hq : fr.size = 4 ∧ dst.size = 4 ∧ (0 ≤ id ∧ id ≤ 65535) ∧ (0 ≤ off ∧ off ≤ 8191) := by simpa [and_assoc] using hb.symm
      refine ev_ite (fun hk => ev_ite (fun hm => j2 ⟨hv, hq⟩ _ (by simp [hk, hm])) (fun hm => j2 ⟨hv, hq⟩ _ ?_)) (fun hk => j2 ⟨hv, hq⟩ _ (by simp at hk; simp [hk]))
      simp at hm
      simp [hk, hm]
  have j0 : ∀ b, Ev (fun k => impl_PacketOK.j0 k b v fr dst hop proto id off more keep l) (!b && pktTail v fr dst id off more keep l.length) := by
    intro b
    apply ev_succ
    simp only [impl_PacketOK.j0, impl_in, Option.bind_some]
    refine ev_ite (fun hb => ev_fin (by simp [hb])) (fun hb => ?_)
    have hb' : b = false := by simpa using hb
    simp only [hb', Bool.not_false, Bool.true_and]
    refine ev_ite (fun hv => ?_) (fun hv => ?_)
    · repeat' first
        | refine ev_ite (fun _ => ?_) (fun _ => ?_)
        | refine j1 hv _ ?_
      all_goals (clear j1 j2 hw; simp_all <;> omega)
    · simp only [pktTail, if_neg hv]
      clear j1 j2 hw
      repeat' first
        | refine ev_ite (fun _ => ?_) (fun _ => ?_)
        | refine ev_fin ?_
      all_goals (simp_all <;> omega)
  unfold impl_PacketOK.f pktOK
  simp only [impl_in, Option.bind_some]
  refine ev_ite (fun h1 => ev_ite (fun h2 => ev_eq (j0 _) ?_) (fun h2 => ev_eq (j0 _) ?_)) (fun h1 => ev_eq (j0 _) ?_)
  · have h1' := of_decide_eq_true h1
    have h2' := of_decide_eq_true h2
    have e : decide ((l.length : Int) > 1500) = !decide (l.length ≤ 1500) := by
      by_cases h : l.length ≤ 1500
      · simp [h]
        omega
      · simp [h]
        omega
    rw [e, Bool.not_not]
    simp [h1', h2']
  · have h2' : ¬ (0 ≤ proto ∧ proto ≤ 255) := by simpa using h2
    simp [h2']
  · have h1' : ¬ (0 ≤ hop ∧ hop ≤ 255) := by simpa using h1
    simp [h1']
theorem szBytes_ev (l : List Int) (a : Int) : laws_szByteS.f l a = some (if wrap64 (a - (l.length : Int)) < 0 then -1 else wrap64 (a - (l.length : Int))) := by
  unfold laws_szByteS.f
  split <;> rfl
/-- The size of a packet: below nothing, or its data are no more than a MiB. -/
theorem szPacket_ev (v : Int) (fr dst : ByteArray) (hop proto id off : Int) (more keep : Bool) (l : List Int) (h1 : fr.size ≤ maxLen) (h2 : dst.size ≤ maxLen) (h3 : l.length ≤ maxLen) :
    ∃ r, laws_szPacket.f v fr dst hop proto id off more keep l 1048576 = some r ∧ (r < 0 ∨ l.length ≤ 1048576 ∧ fr.size ≤ 1048576 ∧ dst.size ≤ 1048576) := by
  unfold maxLen at h1 h2 h3
  unfold laws_szPacket.f
  rw [wrap64_in (n := 1048576 - (fr.size : Int)) (by omega) (by omega)]
  by_cases c1 : 1048576 - (fr.size : Int) < 0
  · rw [if_pos c1]
    exact ⟨-1, rfl, .inl (by omega)⟩
  · rw [if_neg c1, wrap64_in (n := 1048576 - (fr.size : Int) - (dst.size : Int)) (by omega) (by omega)]
    by_cases c2 : 1048576 - (fr.size : Int) - (dst.size : Int) < 0
    · rw [if_pos c2]
      exact ⟨-1, rfl, .inl (by omega)⟩
    · rw [if_neg c2, szBytes_ev, wrap64_in (n := 1048576 - (fr.size : Int) - (dst.size : Int) - (l.length : Int)) (by omega) (by omega)]
      simp only [Option.bind_some]
      by_cases c3 : 1048576 - (fr.size : Int) - (dst.size : Int) - (l.length : Int) < 0
      · rw [if_pos c3]
        exact ⟨-1, rfl, .inl (by omega)⟩
      · rw [if_neg c3, if_neg c3]
        exact ⟨_, rfl, .inr (by omega)⟩
theorem toPacket_ev (v : Int) (fr dst : ByteArray) (hop proto id off : Int) (more keep : Bool) {l : List Int} (hl : l.length ≤ 140737488355328) :
    Ev (fun k => laws_toPacket.f k v fr dst hop proto id off more keep l) (v, fr, dst, hop, proto, id, off, more, keep, l) := by
  unfold laws_toPacket.f
  exact Ev.bind (toByteS_ev hl) (Ev.now _)
theorem eqPacket_ev (v : Int) (fr dst : ByteArray) (hop proto id off : Int) (more keep : Bool) {l : List Int} (hl : l.length ≤ 140737488355328) :
    Ev (fun k => laws_eqPacket.f k v fr dst hop proto id off more keep l v fr dst hop proto id off more keep l) true := by
  unfold laws_eqPacket.f
  simp only [if_true, bne_self_eq_false, Bool.false_eq_true, if_false]
  exact Ev.bind (eqByteS_ev hl) (ev_pos rfl (Ev.now _))

theorem FnExactPacketOK : SaysFnExactPacketOK.Says := by
  intro v fr dst hop proto id off more keep l _ h1 h2 _ _ _ _ _ _ h3
  refine Ev.rounds (g := fun k => laws_FnExactPacketOK.f k v fr dst hop proto id off more keep l) ?_
  unfold laws_FnExactPacketOK.f
  obtain ⟨r, hr, hc⟩ := szPacket_ev v fr dst hop proto id off more keep l h1 h2 h3.1
  refine ev_bindc hr (ev_ite (fun _ => Ev.now _) (fun hn => ?_))
  rcases hc with hc | hc
  · exact absurd hc hn
  have hl : l.length ≤ 140737488355328 := by omega
  refine Ev.bind (toPacket_ev v fr dst hop proto id off more keep hl) (Ev.bind (specPkt_ev v fr dst hop proto id off more keep l hc.1) (Ev.bind (toPacket_ev v fr dst hop proto id off more keep hl) (Ev.bind (implPkt_ev v fr dst hop proto id off more keep l hc.1) (ev_neg ?_ ?_))))
  · simp
  · exact Ev.bind (toPacket_ev v fr dst hop proto id off more keep hl) (Ev.bind (eqPacket_ev v fr dst hop proto id off more keep hl) (ev_pos rfl (Ev.now _)))

end Go.Proofs.Ytblmghlopolknaa.Pure
