-- written by a program of this session
import Derived.Test.YtjfpkfophfelmaaQFnExactPacketBytesx0
import Derived.Test.YtjfpkfophfelmaaQFnExactPacketBytesx5
namespace Go.Proofs.Ytjfpkfophfelmaa.QFnExactPacketBytes
open Go.RowKit Go.Proofs.YtjfpkfophfelmaaV.PrintWords Go.Proofs.YtjfpkfophfelmaaV.PrintLast Go.Proofs.YtjfpkfophfelmaaV.PrintMore
attribute [local go_sem] max2_int min2_int max_two min_two max_three min_three max_four min_four   -- for this text's walks alone
set_option linter.unusedVariables false
set_option linter.unusedSimpArgs false

/-! ### impl_PacketOK: function 49 -/
mutual
def impl_PacketOK.j0 : Nat → Bool → Int → ByteArray → ByteArray → Int → Int → Int → Int → Bool → Bool → List Int → Option (Bool)
  | 0, _, _, _, _, _, _, _, _, _, _, _ => none
  | k + 1, x18, x203000, x203001, x203002, x203003, x203004, x203005, x203006, x203007, x203008, x203009 => if x18 = true then (some false) else (if x203000 = 4 then (if (x203001.size : Int) = 4 then (if (x203002.size : Int) = 4 then ((impl_inRange.f x203005 0 65535).bind fun t205 => (if t205 = true then ((impl_inRange.f x203006 0 8191).bind fun t206 => (impl_PacketOK.j1 k (!t206) x203000 x203001 x203002 x203003 x203004 x203005 x203006 x203007 x203008 x203009)) else (impl_PacketOK.j1 k true x203000 x203001 x203002 x203003 x203004 x203005 x203006 x203007 x203008 x203009))) else (impl_PacketOK.j1 k true x203000 x203001 x203002 x203003 x203004 x203005 x203006 x203007 x203008 x203009)) else (impl_PacketOK.j1 k true x203000 x203001 x203002 x203003 x203004 x203005 x203006 x203007 x203008 x203009)) else (if x203000 = 6 then (if (x203001.size : Int) = 16 then (if (x203002.size : Int) = 16 then (if x203005 = 0 then (if x203006 = 0 then (if x203007 = true then (some false) else (some (!x203008))) else (some false)) else (some false)) else (some false)) else (some false)) else (some false)))
def impl_PacketOK.j1 : Nat → Bool → Int → ByteArray → ByteArray → Int → Int → Int → Int → Bool → Bool → List Int → Option (Bool)
  | 0, _, _, _, _, _, _, _, _, _, _, _ => none
  | k + 1, x44, x203000, x203001, x203002, x203003, x203004, x203005, x203006, x203007, x203008, x203009 => if x44 = true then (some false) else (if x203008 = true then (if x203007 = true then (impl_PacketOK.j2 k true x203000 x203001 x203002 x203003 x203004 x203005 x203006 x203007 x203008 x203009) else (impl_PacketOK.j2 k (decide (x203006 > 0)) x203000 x203001 x203002 x203003 x203004 x203005 x203006 x203007 x203008 x203009)) else (impl_PacketOK.j2 k false x203000 x203001 x203002 x203003 x203004 x203005 x203006 x203007 x203008 x203009))
def impl_PacketOK.j2 : Nat → Bool → Int → ByteArray → ByteArray → Int → Int → Int → Int → Bool → Bool → List Int → Option (Bool)
  | 0, _, _, _, _, _, _, _, _, _, _, _ => none
  | k + 1, x55, x203000, x203001, x203002, x203003, x203004, x203005, x203006, x203007, x203008, x203009 => if x55 = true then (some false) else (if x203007 = true then (if (x203009.length : Int) = 0 then (some false) else (if ((x203009.length : Int) % 8) = 0 then (some (decide ((wrap64 ((wrap64 (8 * x203006)) + (x203009.length : Int))) ≤ 65515))) else (some false))) else (some (decide ((wrap64 ((wrap64 (8 * x203006)) + (x203009.length : Int))) ≤ 65515))))
end
def impl_PacketOK.f (k : Nat) (a0_0 : Int) (a0_1 : ByteArray) (a0_2 : ByteArray) (a0_3 : Int) (a0_4 : Int) (a0_5 : Int) (a0_6 : Int) (a0_7 : Bool) (a0_8 : Bool) (l0_9 : List Int) : Option (Bool) := (impl_inRange.f a0_3 0 255).bind fun t203 => (if t203 = true then ((impl_inRange.f a0_4 0 255).bind fun t204 => (if t204 = true then (impl_PacketOK.j0 k (decide ((l0_9.length : Int) > 1500)) a0_0 a0_1 a0_2 a0_3 a0_4 a0_5 a0_6 a0_7 a0_8 l0_9) else (impl_PacketOK.j0 k true a0_0 a0_1 a0_2 a0_3 a0_4 a0_5 a0_6 a0_7 a0_8 l0_9))) else (impl_PacketOK.j0 k true a0_0 a0_1 a0_2 a0_3 a0_4 a0_5 a0_6 a0_7 a0_8 l0_9))
theorem impl_PacketOK.mono_l : ∀ k, (∀ y0 y1 y2 y3 y4 y5 y6 y7 y8 y9 y10, LeO (impl_PacketOK.j0 k y0 y1 y2 y3 y4 y5 y6 y7 y8 y9 y10) (impl_PacketOK.j0 (k + 1) y0 y1 y2 y3 y4 y5 y6 y7 y8 y9 y10)) ∧ (∀ y0 y1 y2 y3 y4 y5 y6 y7 y8 y9 y10, LeO (impl_PacketOK.j1 k y0 y1 y2 y3 y4 y5 y6 y7 y8 y9 y10) (impl_PacketOK.j1 (k + 1) y0 y1 y2 y3 y4 y5 y6 y7 y8 y9 y10)) ∧ (∀ y0 y1 y2 y3 y4 y5 y6 y7 y8 y9 y10, LeO (impl_PacketOK.j2 k y0 y1 y2 y3 y4 y5 y6 y7 y8 y9 y10) (impl_PacketOK.j2 (k + 1) y0 y1 y2 y3 y4 y5 y6 y7 y8 y9 y10))
  | 0 => ⟨fun _ _ _ _ _ _ _ _ _ _ _ r h => by simp [impl_PacketOK.j0] at h, fun _ _ _ _ _ _ _ _ _ _ _ r h => by simp [impl_PacketOK.j1] at h, fun _ _ _ _ _ _ _ _ _ _ _ r h => by simp [impl_PacketOK.j2] at h⟩
  | k + 1 => by
    obtain ⟨ih0, ih1, ih2⟩ := impl_PacketOK.mono_l k
    refine ⟨?_, ?_, ?_⟩
    · intro y0 y1 y2 y3 y4 y5 y6 y7 y8 y9 y10
      unfold impl_PacketOK.j0
      repeat' first
      | (with_reducible exact ih0 _ _ _ _ _ _ _ _ _ _ _)
      | (with_reducible exact ih1 _ _ _ _ _ _ _ _ _ _ _)
      | (with_reducible exact ih2 _ _ _ _ _ _ _ _ _ _ _)
      | (with_reducible exact LeO.refl _)
      | (with_reducible exact LeO.none _)
      | (with_reducible refine LeO.ite ?_ ?_)
      | (with_reducible refine LeO.bind ?_ (fun _ => ?_))
      | exact ih0 _ _ _ _ _ _ _ _ _ _ _
      | exact ih1 _ _ _ _ _ _ _ _ _ _ _
      | exact ih2 _ _ _ _ _ _ _ _ _ _ _
      | exact LeO.none _
      | refine LeO.ite ?_ ?_
      | refine LeO.bind ?_ (fun _ => ?_)
    · intro y0 y1 y2 y3 y4 y5 y6 y7 y8 y9 y10
      unfold impl_PacketOK.j1
      repeat' first
      | (with_reducible exact ih0 _ _ _ _ _ _ _ _ _ _ _)
      | (with_reducible exact ih1 _ _ _ _ _ _ _ _ _ _ _)
      | (with_reducible exact ih2 _ _ _ _ _ _ _ _ _ _ _)
      | (with_reducible exact LeO.refl _)
      | (with_reducible exact LeO.none _)
      | (with_reducible refine LeO.ite ?_ ?_)
      | (with_reducible refine LeO.bind ?_ (fun _ => ?_))
      | exact ih0 _ _ _ _ _ _ _ _ _ _ _
      | exact ih1 _ _ _ _ _ _ _ _ _ _ _
      | exact ih2 _ _ _ _ _ _ _ _ _ _ _
      | exact LeO.none _
      | refine LeO.ite ?_ ?_
      | refine LeO.bind ?_ (fun _ => ?_)
    · intro y0 y1 y2 y3 y4 y5 y6 y7 y8 y9 y10
      unfold impl_PacketOK.j2
      repeat' first
      | (with_reducible exact ih0 _ _ _ _ _ _ _ _ _ _ _)
      | (with_reducible exact ih1 _ _ _ _ _ _ _ _ _ _ _)
      | (with_reducible exact ih2 _ _ _ _ _ _ _ _ _ _ _)
      | (with_reducible exact LeO.refl _)
      | (with_reducible exact LeO.none _)
      | (with_reducible refine LeO.ite ?_ ?_)
      | (with_reducible refine LeO.bind ?_ (fun _ => ?_))
      | exact ih0 _ _ _ _ _ _ _ _ _ _ _
      | exact ih1 _ _ _ _ _ _ _ _ _ _ _
      | exact ih2 _ _ _ _ _ _ _ _ _ _ _
      | exact LeO.none _
      | refine LeO.ite ?_ ?_
      | refine LeO.bind ?_ (fun _ => ?_)
theorem impl_PacketOK.mono : ∀ a0 a1 a2 a3 a4 a5 a6 a7 a8 a9 k, LeO (impl_PacketOK.f k a0 a1 a2 a3 a4 a5 a6 a7 a8 a9) (impl_PacketOK.f (k + 1) a0 a1 a2 a3 a4 a5 a6 a7 a8 a9) := by
  intro a0 a1 a2 a3 a4 a5 a6 a7 a8 a9 k
  obtain ⟨ih0, ih1, ih2⟩ := impl_PacketOK.mono_l k
  unfold impl_PacketOK.f
  repeat' first
      | (with_reducible exact ih0 _ _ _ _ _ _ _ _ _ _ _)
      | (with_reducible exact ih1 _ _ _ _ _ _ _ _ _ _ _)
      | (with_reducible exact ih2 _ _ _ _ _ _ _ _ _ _ _)
      | (with_reducible exact LeO.refl _)
      | (with_reducible exact LeO.none _)
      | (with_reducible refine LeO.ite ?_ ?_)
      | (with_reducible refine LeO.bind ?_ (fun _ => ?_))
      | exact ih0 _ _ _ _ _ _ _ _ _ _ _
      | exact ih1 _ _ _ _ _ _ _ _ _ _ _
      | exact ih2 _ _ _ _ _ _ _ _ _ _ _
      | exact LeO.none _
      | refine LeO.ite ?_ ?_
      | refine LeO.bind ?_ (fun _ => ?_)
set_option maxHeartbeats 8000000 in
set_option maxRecDepth 100000 in
theorem impl_PacketOK.calls (k : Nat) (a0_0 : Int) (a0_1 : ByteArray) (a0_2 : ByteArray) (a0_3 : Int) (a0_4 : Int) (a0_5 : Int) (a0_6 : Int) (a0_7 : Bool) (a0_8 : Bool) (A0_9 : Option Addr) (c0_9 : Nat) (l0_9 : List Int) (r : Bool) (w : World) (hr0_9 : Kd.C (Kd.int .u8) w A0_9 l0_9.length l0_9) (hc0_9 : l0_9.length ≤ c0_9) (h : impl_PacketOK.f k a0_0 a0_1 a0_2 a0_3 a0_4 a0_5 a0_6 a0_7 a0_8 l0_9 = some r) :
    Calls Try.prog 49 #[.agg #[.int .i64 a0_0, .string a0_1, .string a0_2, .int .i64 a0_3, .int .i64 a0_4, .int .i64 a0_5, .int .i64 a0_6, .bool a0_7, .bool a0_8, .slice A0_9 l0_9.length c0_9]] w fun e w' => e = .returned (.bool r) ∧ Below w.heap.size w w' := by
  have hu67 := Try.underlying67
  have HR0_9 := Aside0.mk hr0_9
  have HC0_9 := Aside0.mk hc0_9
  clear hr0_9 hc0_9
  have HB := Aside0.mk (Below.refl w.heap.size w)
  have H : ((impl_inRange.f a0_3 0 255).bind fun t203 => (if t203 = true then ((impl_inRange.f a0_4 0 255).bind fun t204 => (if t204 = true then (impl_PacketOK.j0 k (decide ((l0_9.length : Int) > 1500)) a0_0 a0_1 a0_2 a0_3 a0_4 a0_5 a0_6 a0_7 a0_8 l0_9) else (impl_PacketOK.j0 k true a0_0 a0_1 a0_2 a0_3 a0_4 a0_5 a0_6 a0_7 a0_8 l0_9))) else (impl_PacketOK.j0 k true a0_0 a0_1 a0_2 a0_3 a0_4 a0_5 a0_6 a0_7 a0_8 l0_9))) = some r := h
  clear h
  have HC2 := Aside0.mk H
  clear H
  go_enter Try.func49, Try.ntmps49
  go_upto_region 1 with (first | ((with_reducible refine gate_dst (N := 1) rfl ?_); refine box_event ?hg (N := 1) ?hd (cs := #[.int .i64 a0_0, .string a0_1, .string a0_2, .int .i64 a0_3, .int .i64 a0_4, .int .i64 a0_5, .int .i64 a0_6, .bool a0_7, .bool a0_8, .slice A0_9 l0_9.length c0_9]) (t := 67) ?hr ?_; (case hd => rfl); (case hg => rfl); (case hr => first | (go_simp; done) | (go_simp; rfl)); intro gb202 hg w3 hbox hb; have n0_ := Aside0.mk (below_step (by repeat (first | (with_reducible first | exact HB.out | apply below_alloc | apply pw_below_drewN | apply below_drew1) | exact HB.out)) hb); have n1_ := Aside0.mk (hbox); have n2_ := Aside0.mk ((by rw [hg]; exact (below_size (by repeat (first | (with_reducible first | exact HB.out | apply below_alloc | apply pw_below_drewN | apply below_drew1) | exact HB.out))) : w.heap.size ≤ gb202)); have n3_ := Aside0.mk ((by rw [hg]; exact (below_size (by repeat (first | (with_reducible first | exact HB.out | apply below_alloc | apply pw_below_drewN | apply below_drew1) | exact HB.out))) : w.heap.size ≤ gb202)); clear HB; have HB := n0_; have BK202 := n1_; have GW202 := n2_; have GE202 := n3_; clear n0_ n1_ n2_ n3_; clear hb hbox hg))
  (try simp only [Act.put, List.setIfInBounds_toArray, List.set_cons_zero, List.set_cons_succ])
  go_cut [18] (fun v18 wc => ∃ (kq : Nat) (x18_1 : Bool), v18 = .bool x18_1 ∧ Aside0 (impl_PacketOK.j0 kq x18_1 a0_0 a0_1 a0_2 a0_3 a0_4 a0_5 a0_6 a0_7 a0_8 l0_9 = some r) ∧ Aside0 (kq ≤ k) ∧ Aside0 (wc.heap[gb202]? = some (.cells #[.int .i64 a0_0, .string a0_1, .string a0_2, .int .i64 a0_3, .int .i64 a0_4, .int .i64 a0_5, .int .i64 a0_6, .bool a0_7, .bool a0_8, (.slice A0_9 l0_9.length c0_9)] 67 (0, 0))) ∧ Aside0 (Below w.heap.size w wc))
  case first =>
    have H := HC2.out
    clear HC2
    replace H := Option.bind_eq_some_iff.mp H
    obtain ⟨t203, A40, H⟩ := H
    replace H : (if t203 = true then ((impl_inRange.f a0_4 0 255).bind fun t204 => (if t204 = true then (impl_PacketOK.j0 k (decide ((l0_9.length : Int) > 1500)) a0_0 a0_1 a0_2 a0_3 a0_4 a0_5 a0_6 a0_7 a0_8 l0_9) else (impl_PacketOK.j0 k true a0_0 a0_1 a0_2 a0_3 a0_4 a0_5 a0_6 a0_7 a0_8 l0_9))) else (impl_PacketOK.j0 k true a0_0 a0_1 a0_2 a0_3 a0_4 a0_5 a0_6 a0_7 a0_8 l0_9)) = some r := H
    have A4 := Aside0.mk A40
    clear A40
    by_cases c5 : t203 = true
    · subst c5
      have H1 : ((impl_inRange.f a0_4 0 255).bind fun t204 => (if t204 = true then (impl_PacketOK.j0 k (decide ((l0_9.length : Int) > 1500)) a0_0 a0_1 a0_2 a0_3 a0_4 a0_5 a0_6 a0_7 a0_8 l0_9) else (impl_PacketOK.j0 k true a0_0 a0_1 a0_2 a0_3 a0_4 a0_5 a0_6 a0_7 a0_8 l0_9))) = some r := by rw [if_pos rfl] at H; exact H
      clear H
      have H := H1
      clear H1
      replace H := Option.bind_eq_some_iff.mp H
      obtain ⟨t204, A60, H⟩ := H
      replace H : (if t204 = true then (impl_PacketOK.j0 k (decide ((l0_9.length : Int) > 1500)) a0_0 a0_1 a0_2 a0_3 a0_4 a0_5 a0_6 a0_7 a0_8 l0_9) else (impl_PacketOK.j0 k true a0_0 a0_1 a0_2 a0_3 a0_4 a0_5 a0_6 a0_7 a0_8 l0_9)) = some r := H
      have A6 := Aside0.mk A60
      clear A60
      by_cases c7 : t204 = true
      · subst c7
        have H1 : (impl_PacketOK.j0 k (decide ((l0_9.length : Int) > 1500)) a0_0 a0_1 a0_2 a0_3 a0_4 a0_5 a0_6 a0_7 a0_8 l0_9) = some r := by rw [if_pos rfl] at H; exact H
        clear H
        have H := H1
        clear H1
        have H' := Aside0.mk H
        clear H
        have hcz8_0 : w3.cell? ⟨gb202, 0, none⟩ = some (.int .i64 a0_0) := (blk_cell BK202.out 0).trans rfl
        have hcz8_1 : w3.cell? ⟨gb202, 1, none⟩ = some (.string a0_1) := (blk_cell BK202.out 1).trans rfl
        have hcz8_2 : w3.cell? ⟨gb202, 2, none⟩ = some (.string a0_2) := (blk_cell BK202.out 2).trans rfl
        have hcz8_3 : w3.cell? ⟨gb202, 3, none⟩ = some (.int .i64 a0_3) := (blk_cell BK202.out 3).trans rfl
        have hcz8_4 : w3.cell? ⟨gb202, 4, none⟩ = some (.int .i64 a0_4) := (blk_cell BK202.out 4).trans rfl
        have hcz8_5 : w3.cell? ⟨gb202, 5, none⟩ = some (.int .i64 a0_5) := (blk_cell BK202.out 5).trans rfl
        have hcz8_6 : w3.cell? ⟨gb202, 6, none⟩ = some (.int .i64 a0_6) := (blk_cell BK202.out 6).trans rfl
        have hcz8_7 : w3.cell? ⟨gb202, 7, none⟩ = some (.bool a0_7) := (blk_cell BK202.out 7).trans rfl
        have hcz8_8 : w3.cell? ⟨gb202, 8, none⟩ = some (.bool a0_8) := (blk_cell BK202.out 8).trans rfl
        have hcz8_9 : w3.cell? ⟨gb202, 9, none⟩ = some (.slice A0_9 l0_9.length c0_9) := (blk_cell BK202.out 9).trans rfl
        have hfz8_0 := blk_frozen BK202.out 0
        have hfz8_1 := blk_frozen BK202.out 1
        have hfz8_2 := blk_frozen BK202.out 2
        have hfz8_3 := blk_frozen BK202.out 3
        have hfz8_4 := blk_frozen BK202.out 4
        have hfz8_5 := blk_frozen BK202.out 5
        have hfz8_6 := blk_frozen BK202.out 6
        have hfz8_7 := blk_frozen BK202.out 7
        have hfz8_8 := blk_frozen BK202.out 8
        have hfz8_9 := blk_frozen BK202.out 9
        go_wp2_with (first | ((with_reducible refine gate_callee (f := 89) rfl ?_); refine goesL_ (some 5) rfl rfl Try.func89 (by kernel_rfl) rfl #[.int .i64 a0_3, .int .i64 0, .int .i64 255] rfl (by (try simp only [List.map_toArray, List.map_cons, List.map_nil]); first | done | rfl | (simp only [List.length_drop, List.length_take]; rfl)) ?_; (with_reducible refine (impl_inRange.calls a0_3 0 255 true _ A4.out).mono ?_); rintro e w' ⟨rfl, ⟨nd, rfl⟩⟩; refine ⟨_, rfl, ?_⟩) | (go_at_call 89; (with_reducible refine (impl_inRange.calls a0_4 0 255 true _ A6.out).mono ?_); rintro e w' ⟨rfl, ⟨nd, rfl⟩⟩))
        go_meet
        case rel => exact ⟨_, (decide ((l0_9.length : Int) > 1500)), (by first | rfl | (simp; done) | (simp [*]; done)), H', ⟨by first | omega | exact Nat.le_refl _⟩, ⟨by (with_reducible repeat (first | refine blk_drewN ?_ _ | refine blk_drew ?_ | refine blk_alloc ?_ _)); exact BK202.out⟩, ⟨by repeat (first | (with_reducible first | exact HB.out | apply below_alloc | apply pw_below_drewN | apply below_drew1 | refine below_set ?_ GE202.out) | exact HB.out)⟩⟩
      · replace c7 := Bool.eq_false_iff.mpr c7
        subst c7
        have H1 : (impl_PacketOK.j0 k true a0_0 a0_1 a0_2 a0_3 a0_4 a0_5 a0_6 a0_7 a0_8 l0_9) = some r := by rw [if_neg (show ¬ (false = true) by decide)] at H; exact H
        clear H
        have H := H1
        clear H1
        have H' := Aside0.mk H
        clear H
        have hcz9_0 : w3.cell? ⟨gb202, 0, none⟩ = some (.int .i64 a0_0) := (blk_cell BK202.out 0).trans rfl
        have hcz9_1 : w3.cell? ⟨gb202, 1, none⟩ = some (.string a0_1) := (blk_cell BK202.out 1).trans rfl
        have hcz9_2 : w3.cell? ⟨gb202, 2, none⟩ = some (.string a0_2) := (blk_cell BK202.out 2).trans rfl
        have hcz9_3 : w3.cell? ⟨gb202, 3, none⟩ = some (.int .i64 a0_3) := (blk_cell BK202.out 3).trans rfl
        have hcz9_4 : w3.cell? ⟨gb202, 4, none⟩ = some (.int .i64 a0_4) := (blk_cell BK202.out 4).trans rfl
        have hcz9_5 : w3.cell? ⟨gb202, 5, none⟩ = some (.int .i64 a0_5) := (blk_cell BK202.out 5).trans rfl
        have hcz9_6 : w3.cell? ⟨gb202, 6, none⟩ = some (.int .i64 a0_6) := (blk_cell BK202.out 6).trans rfl
        have hcz9_7 : w3.cell? ⟨gb202, 7, none⟩ = some (.bool a0_7) := (blk_cell BK202.out 7).trans rfl
        have hcz9_8 : w3.cell? ⟨gb202, 8, none⟩ = some (.bool a0_8) := (blk_cell BK202.out 8).trans rfl
        have hcz9_9 : w3.cell? ⟨gb202, 9, none⟩ = some (.slice A0_9 l0_9.length c0_9) := (blk_cell BK202.out 9).trans rfl
        have hfz9_0 := blk_frozen BK202.out 0
        have hfz9_1 := blk_frozen BK202.out 1
        have hfz9_2 := blk_frozen BK202.out 2
        have hfz9_3 := blk_frozen BK202.out 3
        have hfz9_4 := blk_frozen BK202.out 4
        have hfz9_5 := blk_frozen BK202.out 5
        have hfz9_6 := blk_frozen BK202.out 6
        have hfz9_7 := blk_frozen BK202.out 7
        have hfz9_8 := blk_frozen BK202.out 8
        have hfz9_9 := blk_frozen BK202.out 9
        go_wp2_with (first | ((with_reducible refine gate_callee (f := 89) rfl ?_); refine goesL_ (some 5) rfl rfl Try.func89 (by kernel_rfl) rfl #[.int .i64 a0_3, .int .i64 0, .int .i64 255] rfl (by (try simp only [List.map_toArray, List.map_cons, List.map_nil]); first | done | rfl | (simp only [List.length_drop, List.length_take]; rfl)) ?_; (with_reducible refine (impl_inRange.calls a0_3 0 255 true _ A4.out).mono ?_); rintro e w' ⟨rfl, ⟨nd, rfl⟩⟩; refine ⟨_, rfl, ?_⟩) | (go_at_call 89; (with_reducible refine (impl_inRange.calls a0_4 0 255 false _ A6.out).mono ?_); rintro e w' ⟨rfl, ⟨nd, rfl⟩⟩))
        go_meet
        case rel => exact ⟨_, (true), (by first | rfl | (simp; done) | (simp [*]; done)), H', ⟨by first | omega | exact Nat.le_refl _⟩, ⟨by (with_reducible repeat (first | refine blk_drewN ?_ _ | refine blk_drew ?_ | refine blk_alloc ?_ _)); exact BK202.out⟩, ⟨by repeat (first | (with_reducible first | exact HB.out | apply below_alloc | apply pw_below_drewN | apply below_drew1 | refine below_set ?_ GE202.out) | exact HB.out)⟩⟩
    · replace c5 := Bool.eq_false_iff.mpr c5
      subst c5
      have H1 : (impl_PacketOK.j0 k true a0_0 a0_1 a0_2 a0_3 a0_4 a0_5 a0_6 a0_7 a0_8 l0_9) = some r := by rw [if_neg (show ¬ (false = true) by decide)] at H; exact H
      clear H
      have H := H1
      clear H1
      have H' := Aside0.mk H
      clear H
      have hcz10_0 : w3.cell? ⟨gb202, 0, none⟩ = some (.int .i64 a0_0) := (blk_cell BK202.out 0).trans rfl
      have hcz10_1 : w3.cell? ⟨gb202, 1, none⟩ = some (.string a0_1) := (blk_cell BK202.out 1).trans rfl
      have hcz10_2 : w3.cell? ⟨gb202, 2, none⟩ = some (.string a0_2) := (blk_cell BK202.out 2).trans rfl
      have hcz10_3 : w3.cell? ⟨gb202, 3, none⟩ = some (.int .i64 a0_3) := (blk_cell BK202.out 3).trans rfl
      have hcz10_4 : w3.cell? ⟨gb202, 4, none⟩ = some (.int .i64 a0_4) := (blk_cell BK202.out 4).trans rfl
      have hcz10_5 : w3.cell? ⟨gb202, 5, none⟩ = some (.int .i64 a0_5) := (blk_cell BK202.out 5).trans rfl
      have hcz10_6 : w3.cell? ⟨gb202, 6, none⟩ = some (.int .i64 a0_6) := (blk_cell BK202.out 6).trans rfl
      have hcz10_7 : w3.cell? ⟨gb202, 7, none⟩ = some (.bool a0_7) := (blk_cell BK202.out 7).trans rfl
      have hcz10_8 : w3.cell? ⟨gb202, 8, none⟩ = some (.bool a0_8) := (blk_cell BK202.out 8).trans rfl
      have hcz10_9 : w3.cell? ⟨gb202, 9, none⟩ = some (.slice A0_9 l0_9.length c0_9) := (blk_cell BK202.out 9).trans rfl
      have hfz10_0 := blk_frozen BK202.out 0
      have hfz10_1 := blk_frozen BK202.out 1
      have hfz10_2 := blk_frozen BK202.out 2
      have hfz10_3 := blk_frozen BK202.out 3
      have hfz10_4 := blk_frozen BK202.out 4
      have hfz10_5 := blk_frozen BK202.out 5
      have hfz10_6 := blk_frozen BK202.out 6
      have hfz10_7 := blk_frozen BK202.out 7
      have hfz10_8 := blk_frozen BK202.out 8
      have hfz10_9 := blk_frozen BK202.out 9
      go_wp2_with (first | ((with_reducible refine gate_callee (f := 89) rfl ?_); refine goesL_ (some 5) rfl rfl Try.func89 (by kernel_rfl) rfl #[.int .i64 a0_3, .int .i64 0, .int .i64 255] rfl (by (try simp only [List.map_toArray, List.map_cons, List.map_nil]); first | done | rfl | (simp only [List.length_drop, List.length_take]; rfl)) ?_; (with_reducible refine (impl_inRange.calls a0_3 0 255 false _ A4.out).mono ?_); rintro e w' ⟨rfl, ⟨nd, rfl⟩⟩; refine ⟨_, rfl, ?_⟩))
      go_meet
      case rel => exact ⟨_, (true), (by first | rfl | (simp; done) | (simp [*]; done)), H', ⟨by first | omega | exact Nat.le_refl _⟩, ⟨by (with_reducible repeat (first | refine blk_drewN ?_ _ | refine blk_drew ?_ | refine blk_alloc ?_ _)); exact BK202.out⟩, ⟨by repeat (first | (with_reducible first | exact HB.out | apply below_alloc | apply pw_below_drewN | apply below_drew1 | refine below_set ?_ GE202.out) | exact HB.out)⟩⟩
  case rest =>
    clear HC2
    try clear p2
    try clear c4
    try clear c5
    try clear c7
    try clear c8
    try clear hcz10_0
    try clear hcz10_1
    try clear hcz10_2
    try clear hcz10_3
    try clear hcz10_4
    try clear hcz10_5
    try clear hcz10_6
    try clear hcz10_7
    try clear hcz10_8
    try clear hcz10_9
    try clear hcz8_0
    try clear hcz8_1
    try clear hcz8_2
    try clear hcz8_3
    try clear hcz8_4
    try clear hcz8_5
    try clear hcz8_6
    try clear hcz8_7
    try clear hcz8_8
    try clear hcz8_9
    try clear hcz9_0
    try clear hcz9_1
    try clear hcz9_2
    try clear hcz9_3
    try clear hcz9_4
    try clear hcz9_5
    try clear hcz9_6
    try clear hcz9_7
    try clear hcz9_8
    try clear hcz9_9
    try clear hfz10_0
    try clear hfz10_1
    try clear hfz10_2
    try clear hfz10_3
    try clear hfz10_4
    try clear hfz10_5
    try clear hfz10_6
    try clear hfz10_7
    try clear hfz10_8
    try clear hfz10_9
    try clear hfz8_0
    try clear hfz8_1
    try clear hfz8_2
    try clear hfz8_3
    try clear hfz8_4
    try clear hfz8_5
    try clear hfz8_6
    try clear hfz8_7
    try clear hfz8_8
    try clear hfz8_9
    try clear hfz9_0
    try clear hfz9_1
    try clear hfz9_2
    try clear hfz9_3
    try clear hfz9_4
    try clear hfz9_5
    try clear hfz9_6
    try clear hfz9_7
    try clear hfz9_8
    try clear hfz9_9
    obtain ⟨kq, x18_1, rfl, HA, HJ1, BK202, HB⟩ := hcut
    cases kq with
    | zero => exact absurd HA.out (by simp [impl_PacketOK.j0])
    | succ kj1 =>
      have H := HA.out
      clear HA
      simp only [impl_PacketOK.j0] at H
      by_cases c11 : x18_1 = true
      · subst c11
        have H1 : (some false) = some r := by rw [if_pos rfl] at H; exact H
        clear H
        have H := H1
        clear H1
        obtain rfl := Option.some.inj H
        go_wp2
        go_ret
        exact ⟨by first | rfl | (simp [errW_none, errW_some] <;> rfl) | (simp [*, errW_none, errW_some] <;> rfl), by repeat (first | (with_reducible first | exact HB.out | apply below_alloc | apply pw_below_drewN | apply below_drew1 | refine below_set ?_ GE202.out) | exact HB.out)⟩
      · replace c11 := Bool.eq_false_iff.mpr c11
        subst c11
        have H1 : (if a0_0 = 4 then (if (a0_1.size : Int) = 4 then (if (a0_2.size : Int) = 4 then ((impl_inRange.f a0_5 0 65535).bind fun t205 => (if t205 = true then ((impl_inRange.f a0_6 0 8191).bind fun t206 => (impl_PacketOK.j1 kj1 (!t206) a0_0 a0_1 a0_2 a0_3 a0_4 a0_5 a0_6 a0_7 a0_8 l0_9)) else (impl_PacketOK.j1 kj1 true a0_0 a0_1 a0_2 a0_3 a0_4 a0_5 a0_6 a0_7 a0_8 l0_9))) else (impl_PacketOK.j1 kj1 true a0_0 a0_1 a0_2 a0_3 a0_4 a0_5 a0_6 a0_7 a0_8 l0_9)) else (impl_PacketOK.j1 kj1 true a0_0 a0_1 a0_2 a0_3 a0_4 a0_5 a0_6 a0_7 a0_8 l0_9)) else (if a0_0 = 6 then (if (a0_1.size : Int) = 16 then (if (a0_2.size : Int) = 16 then (if a0_5 = 0 then (if a0_6 = 0 then (if a0_7 = true then (some false) else (some (!a0_8))) else (some false)) else (some false)) else (some false)) else (some false)) else (some false))) = some r := by rw [if_neg (show ¬ (false = true) by decide)] at H; exact H
        clear H
        have H := H1
        clear H1
        by_cases c12 : a0_0 = 4
        · rw [if_pos c12] at H
          have c12b0 : (a0_0 == 4) = true := beq_iff_eq.mpr c12
          have c12b1 : (a0_0 != 4) = false := bne_eq_false_iff_eq.mpr c12
          clear c12
          have HC13 := Aside0.mk H
          clear H
          have hcz14_0 : wc.cell? ⟨gb202, 0, none⟩ = some (.int .i64 a0_0) := (blk_cell BK202.out 0).trans rfl
          have hcz14_1 : wc.cell? ⟨gb202, 1, none⟩ = some (.string a0_1) := (blk_cell BK202.out 1).trans rfl
          have hcz14_2 : wc.cell? ⟨gb202, 2, none⟩ = some (.string a0_2) := (blk_cell BK202.out 2).trans rfl
          have hcz14_3 : wc.cell? ⟨gb202, 3, none⟩ = some (.int .i64 a0_3) := (blk_cell BK202.out 3).trans rfl
          have hcz14_4 : wc.cell? ⟨gb202, 4, none⟩ = some (.int .i64 a0_4) := (blk_cell BK202.out 4).trans rfl
          have hcz14_5 : wc.cell? ⟨gb202, 5, none⟩ = some (.int .i64 a0_5) := (blk_cell BK202.out 5).trans rfl
          have hcz14_6 : wc.cell? ⟨gb202, 6, none⟩ = some (.int .i64 a0_6) := (blk_cell BK202.out 6).trans rfl
          have hcz14_7 : wc.cell? ⟨gb202, 7, none⟩ = some (.bool a0_7) := (blk_cell BK202.out 7).trans rfl
          have hcz14_8 : wc.cell? ⟨gb202, 8, none⟩ = some (.bool a0_8) := (blk_cell BK202.out 8).trans rfl
          have hcz14_9 : wc.cell? ⟨gb202, 9, none⟩ = some (.slice A0_9 l0_9.length c0_9) := (blk_cell BK202.out 9).trans rfl
          have hfz14_0 := blk_frozen BK202.out 0
          have hfz14_1 := blk_frozen BK202.out 1
          have hfz14_2 := blk_frozen BK202.out 2
          have hfz14_3 := blk_frozen BK202.out 3
          have hfz14_4 := blk_frozen BK202.out 4
          have hfz14_5 := blk_frozen BK202.out 5
          have hfz14_6 := blk_frozen BK202.out 6
          have hfz14_7 := blk_frozen BK202.out 7
          have hfz14_8 := blk_frozen BK202.out 8
          have hfz14_9 := blk_frozen BK202.out 9
          go_upto_region 5 with (fail)
          go_cut [44] (fun v44 wc => ∃ (kq : Nat) (x44_12 : Bool), v44 = .bool x44_12 ∧ Aside0 (impl_PacketOK.j1 kq x44_12 a0_0 a0_1 a0_2 a0_3 a0_4 a0_5 a0_6 a0_7 a0_8 l0_9 = some r) ∧ Aside0 (kq ≤ kj1) ∧ Aside0 (wc.heap[gb202]? = some (.cells #[.int .i64 a0_0, .string a0_1, .string a0_2, .int .i64 a0_3, .int .i64 a0_4, .int .i64 a0_5, .int .i64 a0_6, .bool a0_7, .bool a0_8, (.slice A0_9 l0_9.length c0_9)] 67 (0, 0))) ∧ Aside0 (Below w.heap.size w wc))
          case first =>
            have H := HC13.out
            clear HC13
            by_cases c15 : (a0_1.size : Int) = 4
            · rw [if_pos c15] at H
              have c15b0 : ((a0_1.size : Int) == 4) = true := beq_iff_eq.mpr c15
              have c15b1 : ((a0_1.size : Int) != 4) = false := bne_eq_false_iff_eq.mpr c15
              clear c15
              (first | rw [c15b0] | (simp only [i64_w, i32_w]; rw [c15b0]) | skip)
              by_cases c16 : (a0_2.size : Int) = 4
              · rw [if_pos c16] at H
                have c16b0 : ((a0_2.size : Int) == 4) = true := beq_iff_eq.mpr c16
                have c16b1 : ((a0_2.size : Int) != 4) = false := bne_eq_false_iff_eq.mpr c16
                clear c16
                replace H := Option.bind_eq_some_iff.mp H
                obtain ⟨t205, A170, H⟩ := H
                replace H : (if t205 = true then ((impl_inRange.f a0_6 0 8191).bind fun t206 => (impl_PacketOK.j1 kj1 (!t206) a0_0 a0_1 a0_2 a0_3 a0_4 a0_5 a0_6 a0_7 a0_8 l0_9)) else (impl_PacketOK.j1 kj1 true a0_0 a0_1 a0_2 a0_3 a0_4 a0_5 a0_6 a0_7 a0_8 l0_9)) = some r := H
                have A17 := Aside0.mk A170
                clear A170
                by_cases c18 : t205 = true
                · subst c18
                  have H1 : ((impl_inRange.f a0_6 0 8191).bind fun t206 => (impl_PacketOK.j1 kj1 (!t206) a0_0 a0_1 a0_2 a0_3 a0_4 a0_5 a0_6 a0_7 a0_8 l0_9)) = some r := by rw [if_pos rfl] at H; exact H
                  clear H
                  have H := H1
                  clear H1
                  replace H := Option.bind_eq_some_iff.mp H
                  obtain ⟨t206, A190, H⟩ := H
                  replace H : (impl_PacketOK.j1 kj1 (!t206) a0_0 a0_1 a0_2 a0_3 a0_4 a0_5 a0_6 a0_7 a0_8 l0_9) = some r := H
                  have A19 := Aside0.mk A190
                  clear A190
                  have H' := Aside0.mk H
                  clear H
                  have hcz20_0 : wc.cell? ⟨gb202, 0, none⟩ = some (.int .i64 a0_0) := (blk_cell BK202.out 0).trans rfl
                  have hcz20_1 : wc.cell? ⟨gb202, 1, none⟩ = some (.string a0_1) := (blk_cell BK202.out 1).trans rfl
                  have hcz20_2 : wc.cell? ⟨gb202, 2, none⟩ = some (.string a0_2) := (blk_cell BK202.out 2).trans rfl
                  have hcz20_3 : wc.cell? ⟨gb202, 3, none⟩ = some (.int .i64 a0_3) := (blk_cell BK202.out 3).trans rfl
                  have hcz20_4 : wc.cell? ⟨gb202, 4, none⟩ = some (.int .i64 a0_4) := (blk_cell BK202.out 4).trans rfl
                  have hcz20_5 : wc.cell? ⟨gb202, 5, none⟩ = some (.int .i64 a0_5) := (blk_cell BK202.out 5).trans rfl
                  have hcz20_6 : wc.cell? ⟨gb202, 6, none⟩ = some (.int .i64 a0_6) := (blk_cell BK202.out 6).trans rfl
                  have hcz20_7 : wc.cell? ⟨gb202, 7, none⟩ = some (.bool a0_7) := (blk_cell BK202.out 7).trans rfl
                  have hcz20_8 : wc.cell? ⟨gb202, 8, none⟩ = some (.bool a0_8) := (blk_cell BK202.out 8).trans rfl
                  have hcz20_9 : wc.cell? ⟨gb202, 9, none⟩ = some (.slice A0_9 l0_9.length c0_9) := (blk_cell BK202.out 9).trans rfl
                  have hfz20_0 := blk_frozen BK202.out 0
                  have hfz20_1 := blk_frozen BK202.out 1
                  have hfz20_2 := blk_frozen BK202.out 2
                  have hfz20_3 := blk_frozen BK202.out 3
                  have hfz20_4 := blk_frozen BK202.out 4
                  have hfz20_5 := blk_frozen BK202.out 5
                  have hfz20_6 := blk_frozen BK202.out 6
                  have hfz20_7 := blk_frozen BK202.out 7
                  have hfz20_8 := blk_frozen BK202.out 8
                  have hfz20_9 := blk_frozen BK202.out 9
                  go_wp2_with (first | (go_at_call 89; (with_reducible refine (impl_inRange.calls a0_5 0 65535 true _ A17.out).mono ?_); rintro e w' ⟨rfl, ⟨nd, rfl⟩⟩) | (go_at_call 89; (with_reducible refine (impl_inRange.calls a0_6 0 8191 t206 _ A19.out).mono ?_); rintro e w' ⟨rfl, ⟨nd, rfl⟩⟩))
                  go_meet
                  case rel => exact ⟨_, (!t206), (by first | rfl | (simp; done) | (simp [*]; done)), H', ⟨by have := HJ1.out; first | omega | exact Nat.le_refl _⟩, ⟨by (with_reducible repeat (first | refine blk_drewN ?_ _ | refine blk_drew ?_ | refine blk_alloc ?_ _)); exact BK202.out⟩, ⟨by repeat (first | (with_reducible first | exact HB.out | apply below_alloc | apply pw_below_drewN | apply below_drew1 | refine below_set ?_ GE202.out) | exact HB.out)⟩⟩
                · replace c18 := Bool.eq_false_iff.mpr c18
                  subst c18
                  have H1 : (impl_PacketOK.j1 kj1 true a0_0 a0_1 a0_2 a0_3 a0_4 a0_5 a0_6 a0_7 a0_8 l0_9) = some r := by rw [if_neg (show ¬ (false = true) by decide)] at H; exact H
                  clear H
                  have H := H1
                  clear H1
                  have H' := Aside0.mk H
                  clear H
                  have hcz21_0 : wc.cell? ⟨gb202, 0, none⟩ = some (.int .i64 a0_0) := (blk_cell BK202.out 0).trans rfl
                  have hcz21_1 : wc.cell? ⟨gb202, 1, none⟩ = some (.string a0_1) := (blk_cell BK202.out 1).trans rfl
                  have hcz21_2 : wc.cell? ⟨gb202, 2, none⟩ = some (.string a0_2) := (blk_cell BK202.out 2).trans rfl
                  have hcz21_3 : wc.cell? ⟨gb202, 3, none⟩ = some (.int .i64 a0_3) := (blk_cell BK202.out 3).trans rfl
                  have hcz21_4 : wc.cell? ⟨gb202, 4, none⟩ = some (.int .i64 a0_4) := (blk_cell BK202.out 4).trans rfl
                  have hcz21_5 : wc.cell? ⟨gb202, 5, none⟩ = some (.int .i64 a0_5) := (blk_cell BK202.out 5).trans rfl
                  have hcz21_6 : wc.cell? ⟨gb202, 6, none⟩ = some (.int .i64 a0_6) := (blk_cell BK202.out 6).trans rfl
                  have hcz21_7 : wc.cell? ⟨gb202, 7, none⟩ = some (.bool a0_7) := (blk_cell BK202.out 7).trans rfl
                  have hcz21_8 : wc.cell? ⟨gb202, 8, none⟩ = some (.bool a0_8) := (blk_cell BK202.out 8).trans rfl
                  have hcz21_9 : wc.cell? ⟨gb202, 9, none⟩ = some (.slice A0_9 l0_9.length c0_9) := (blk_cell BK202.out 9).trans rfl
                  have hfz21_0 := blk_frozen BK202.out 0
                  have hfz21_1 := blk_frozen BK202.out 1
                  have hfz21_2 := blk_frozen BK202.out 2
                  have hfz21_3 := blk_frozen BK202.out 3
                  have hfz21_4 := blk_frozen BK202.out 4
                  have hfz21_5 := blk_frozen BK202.out 5
                  have hfz21_6 := blk_frozen BK202.out 6
                  have hfz21_7 := blk_frozen BK202.out 7
                  have hfz21_8 := blk_frozen BK202.out 8
                  have hfz21_9 := blk_frozen BK202.out 9
                  go_wp2_with (first | (go_at_call 89; (with_reducible refine (impl_inRange.calls a0_5 0 65535 false _ A17.out).mono ?_); rintro e w' ⟨rfl, ⟨nd, rfl⟩⟩))
                  go_meet
                  case rel => exact ⟨_, (true), (by first | rfl | (simp; done) | (simp [*]; done)), H', ⟨by have := HJ1.out; first | omega | exact Nat.le_refl _⟩, ⟨by (with_reducible repeat (first | refine blk_drewN ?_ _ | refine blk_drew ?_ | refine blk_alloc ?_ _)); exact BK202.out⟩, ⟨by repeat (first | (with_reducible first | exact HB.out | apply below_alloc | apply pw_below_drewN | apply below_drew1 | refine below_set ?_ GE202.out) | exact HB.out)⟩⟩
              · rw [if_neg c16] at H
                have c16b0 : ((a0_2.size : Int) == 4) = false := beq_eq_false_iff_ne.mpr c16
                have c16b1 : ((a0_2.size : Int) != 4) = true := bne_iff_ne.mpr c16
                have H' := Aside0.mk H
                clear H
                have hcz22_0 : wc.cell? ⟨gb202, 0, none⟩ = some (.int .i64 a0_0) := (blk_cell BK202.out 0).trans rfl
                have hcz22_1 : wc.cell? ⟨gb202, 1, none⟩ = some (.string a0_1) := (blk_cell BK202.out 1).trans rfl
                have hcz22_2 : wc.cell? ⟨gb202, 2, none⟩ = some (.string a0_2) := (blk_cell BK202.out 2).trans rfl
                have hcz22_3 : wc.cell? ⟨gb202, 3, none⟩ = some (.int .i64 a0_3) := (blk_cell BK202.out 3).trans rfl
                have hcz22_4 : wc.cell? ⟨gb202, 4, none⟩ = some (.int .i64 a0_4) := (blk_cell BK202.out 4).trans rfl
                have hcz22_5 : wc.cell? ⟨gb202, 5, none⟩ = some (.int .i64 a0_5) := (blk_cell BK202.out 5).trans rfl
                have hcz22_6 : wc.cell? ⟨gb202, 6, none⟩ = some (.int .i64 a0_6) := (blk_cell BK202.out 6).trans rfl
                have hcz22_7 : wc.cell? ⟨gb202, 7, none⟩ = some (.bool a0_7) := (blk_cell BK202.out 7).trans rfl
                have hcz22_8 : wc.cell? ⟨gb202, 8, none⟩ = some (.bool a0_8) := (blk_cell BK202.out 8).trans rfl
                have hcz22_9 : wc.cell? ⟨gb202, 9, none⟩ = some (.slice A0_9 l0_9.length c0_9) := (blk_cell BK202.out 9).trans rfl
                have hfz22_0 := blk_frozen BK202.out 0
                have hfz22_1 := blk_frozen BK202.out 1
                have hfz22_2 := blk_frozen BK202.out 2
                have hfz22_3 := blk_frozen BK202.out 3
                have hfz22_4 := blk_frozen BK202.out 4
                have hfz22_5 := blk_frozen BK202.out 5
                have hfz22_6 := blk_frozen BK202.out 6
                have hfz22_7 := blk_frozen BK202.out 7
                have hfz22_8 := blk_frozen BK202.out 8
                have hfz22_9 := blk_frozen BK202.out 9
                go_wp2
                go_meet
                case rel => exact ⟨_, (true), (by first | rfl | (simp; done) | (simp [*]; done)), H', ⟨by have := HJ1.out; first | omega | exact Nat.le_refl _⟩, ⟨by (with_reducible repeat (first | refine blk_drewN ?_ _ | refine blk_drew ?_ | refine blk_alloc ?_ _)); exact BK202.out⟩, ⟨by repeat (first | (with_reducible first | exact HB.out | apply below_alloc | apply pw_below_drewN | apply below_drew1 | refine below_set ?_ GE202.out) | exact HB.out)⟩⟩
            · rw [if_neg c15] at H
              have c15b0 : ((a0_1.size : Int) == 4) = false := beq_eq_false_iff_ne.mpr c15
              have c15b1 : ((a0_1.size : Int) != 4) = true := bne_iff_ne.mpr c15
              (first | rw [c15b0] | (simp only [i64_w, i32_w]; rw [c15b0]) | skip)
              have H' := Aside0.mk H
              clear H
              have hcz23_0 : wc.cell? ⟨gb202, 0, none⟩ = some (.int .i64 a0_0) := (blk_cell BK202.out 0).trans rfl
              have hcz23_1 : wc.cell? ⟨gb202, 1, none⟩ = some (.string a0_1) := (blk_cell BK202.out 1).trans rfl
              have hcz23_2 : wc.cell? ⟨gb202, 2, none⟩ = some (.string a0_2) := (blk_cell BK202.out 2).trans rfl
              have hcz23_3 : wc.cell? ⟨gb202, 3, none⟩ = some (.int .i64 a0_3) := (blk_cell BK202.out 3).trans rfl
              have hcz23_4 : wc.cell? ⟨gb202, 4, none⟩ = some (.int .i64 a0_4) := (blk_cell BK202.out 4).trans rfl
              have hcz23_5 : wc.cell? ⟨gb202, 5, none⟩ = some (.int .i64 a0_5) := (blk_cell BK202.out 5).trans rfl
              have hcz23_6 : wc.cell? ⟨gb202, 6, none⟩ = some (.int .i64 a0_6) := (blk_cell BK202.out 6).trans rfl
              have hcz23_7 : wc.cell? ⟨gb202, 7, none⟩ = some (.bool a0_7) := (blk_cell BK202.out 7).trans rfl
              have hcz23_8 : wc.cell? ⟨gb202, 8, none⟩ = some (.bool a0_8) := (blk_cell BK202.out 8).trans rfl
              have hcz23_9 : wc.cell? ⟨gb202, 9, none⟩ = some (.slice A0_9 l0_9.length c0_9) := (blk_cell BK202.out 9).trans rfl
              have hfz23_0 := blk_frozen BK202.out 0
              have hfz23_1 := blk_frozen BK202.out 1
              have hfz23_2 := blk_frozen BK202.out 2
              have hfz23_3 := blk_frozen BK202.out 3
              have hfz23_4 := blk_frozen BK202.out 4
              have hfz23_5 := blk_frozen BK202.out 5
              have hfz23_6 := blk_frozen BK202.out 6
              have hfz23_7 := blk_frozen BK202.out 7
              have hfz23_8 := blk_frozen BK202.out 8
              have hfz23_9 := blk_frozen BK202.out 9
              go_wp2
              go_meet
              case rel => exact ⟨_, (true), (by first | rfl | (simp; done) | (simp [*]; done)), H', ⟨by have := HJ1.out; first | omega | exact Nat.le_refl _⟩, ⟨by (with_reducible repeat (first | refine blk_drewN ?_ _ | refine blk_drew ?_ | refine blk_alloc ?_ _)); exact BK202.out⟩, ⟨by repeat (first | (with_reducible first | exact HB.out | apply below_alloc | apply pw_below_drewN | apply below_drew1 | refine below_set ?_ GE202.out) | exact HB.out)⟩⟩
          case rest =>
            clear HC13
            try clear c1
            try clear p2
            try clear c4
            try clear c5
            try clear c7
            try clear c8
            try clear c11
            try clear c12
            try clear c12b0
            try clear c12b1
            try clear c15
            try clear c15b0
            try clear c15b1
            try clear c16
            try clear c16b0
            try clear c16b1
            try clear c18
            try clear hcz10_0
            try clear hcz10_1
            try clear hcz10_2
            try clear hcz10_3
            try clear hcz10_4
            try clear hcz10_5
            try clear hcz10_6
            try clear hcz10_7
            try clear hcz10_8
            try clear hcz10_9
            try clear hcz14_0
            try clear hcz14_1
            try clear hcz14_2
            try clear hcz14_3
            try clear hcz14_4
            try clear hcz14_5
            try clear hcz14_6
            try clear hcz14_7
            try clear hcz14_8
            try clear hcz14_9
            try clear hcz20_0
            try clear hcz20_1
            try clear hcz20_2
            try clear hcz20_3
            try clear hcz20_4
            try clear hcz20_5
            try clear hcz20_6
            try clear hcz20_7
            try clear hcz20_8
            try clear hcz20_9
            try clear hcz21_0
            try clear hcz21_1
            try clear hcz21_2
            try clear hcz21_3
            try clear hcz21_4
            try clear hcz21_5
            try clear hcz21_6
            try clear hcz21_7
            try clear hcz21_8
            try clear hcz21_9
            try clear hcz22_0
            try clear hcz22_1
            try clear hcz22_2
            try clear hcz22_3
            try clear hcz22_4
            try clear hcz22_5
            try clear hcz22_6
            try clear hcz22_7
            try clear hcz22_8
            try clear hcz22_9
            try clear hcz23_0
            try clear hcz23_1
            try clear hcz23_2
            try clear hcz23_3
            try clear hcz23_4
            try clear hcz23_5
            try clear hcz23_6
            try clear hcz23_7
            try clear hcz23_8
            try clear hcz23_9
            try clear hcz8_0
            try clear hcz8_1
            try clear hcz8_2
            try clear hcz8_3
            try clear hcz8_4
            try clear hcz8_5
            try clear hcz8_6
            try clear hcz8_7
            try clear hcz8_8
            try clear hcz8_9
            try clear hcz9_0
            try clear hcz9_1
            try clear hcz9_2
            try clear hcz9_3
            try clear hcz9_4
            try clear hcz9_5
            try clear hcz9_6
            try clear hcz9_7
            try clear hcz9_8
            try clear hcz9_9
            try clear hfz10_0
            try clear hfz10_1
            try clear hfz10_2
            try clear hfz10_3
            try clear hfz10_4
            try clear hfz10_5
            try clear hfz10_6
            try clear hfz10_7
            try clear hfz10_8
            try clear hfz10_9
            try clear hfz14_0
            try clear hfz14_1
            try clear hfz14_2
            try clear hfz14_3
            try clear hfz14_4
            try clear hfz14_5
            try clear hfz14_6
            try clear hfz14_7
            try clear hfz14_8
            try clear hfz14_9
            try clear hfz20_0
            try clear hfz20_1
            try clear hfz20_2
            try clear hfz20_3
            try clear hfz20_4
            try clear hfz20_5
            try clear hfz20_6
            try clear hfz20_7
            try clear hfz20_8
            try clear hfz20_9
            try clear hfz21_0
            try clear hfz21_1
            try clear hfz21_2
            try clear hfz21_3
            try clear hfz21_4
            try clear hfz21_5
            try clear hfz21_6
            try clear hfz21_7
            try clear hfz21_8
            try clear hfz21_9
            try clear hfz22_0
            try clear hfz22_1
            try clear hfz22_2
            try clear hfz22_3
            try clear hfz22_4
            try clear hfz22_5
            try clear hfz22_6
            try clear hfz22_7
            try clear hfz22_8
            try clear hfz22_9
            try clear hfz23_0
            try clear hfz23_1
            try clear hfz23_2
            try clear hfz23_3
            try clear hfz23_4
            try clear hfz23_5
            try clear hfz23_6
            try clear hfz23_7
            try clear hfz23_8
            try clear hfz23_9
            try clear hfz8_0
            try clear hfz8_1
            try clear hfz8_2
            try clear hfz8_3
            try clear hfz8_4
            try clear hfz8_5
            try clear hfz8_6
            try clear hfz8_7
            try clear hfz8_8
            try clear hfz8_9
            try clear hfz9_0
            try clear hfz9_1
            try clear hfz9_2
            try clear hfz9_3
            try clear hfz9_4
            try clear hfz9_5
            try clear hfz9_6
            try clear hfz9_7
            try clear hfz9_8
            try clear hfz9_9
            try clear p2
            obtain ⟨kq, x44_12, rfl, HA, HJ12, BK202, HB⟩ := hcut
            cases kq with
            | zero => exact absurd HA.out (by simp [impl_PacketOK.j1])
            | succ kj12 =>
              have H := HA.out
              clear HA
              simp only [impl_PacketOK.j1] at H
              by_cases c24 : x44_12 = true
              · subst c24
                have H1 : (some false) = some r := by rw [if_pos rfl] at H; exact H
                clear H
                have H := H1
                clear H1
                obtain rfl := Option.some.inj H
                go_wp2
                go_ret
                exact ⟨by first | rfl | (simp [errW_none, errW_some] <;> rfl) | (simp [*, errW_none, errW_some] <;> rfl), by repeat (first | (with_reducible first | exact HB.out | apply below_alloc | apply pw_below_drewN | apply below_drew1 | refine below_set ?_ GE202.out) | exact HB.out)⟩
              · replace c24 := Bool.eq_false_iff.mpr c24
                subst c24
                have H1 : (if a0_8 = true then (if a0_7 = true then (impl_PacketOK.j2 kj12 true a0_0 a0_1 a0_2 a0_3 a0_4 a0_5 a0_6 a0_7 a0_8 l0_9) else (impl_PacketOK.j2 kj12 (decide (a0_6 > 0)) a0_0 a0_1 a0_2 a0_3 a0_4 a0_5 a0_6 a0_7 a0_8 l0_9)) else (impl_PacketOK.j2 kj12 false a0_0 a0_1 a0_2 a0_3 a0_4 a0_5 a0_6 a0_7 a0_8 l0_9)) = some r := by rw [if_neg (show ¬ (false = true) by decide)] at H; exact H
                clear H
                have H := H1
                clear H1
                have HC25 := Aside0.mk H
                clear H
                go_upto_region 7 with (fail)
                go_cut [55] (fun v55 wc => ∃ (kq : Nat) (x55_24 : Bool), v55 = .bool x55_24 ∧ Aside0 (impl_PacketOK.j2 kq x55_24 a0_0 a0_1 a0_2 a0_3 a0_4 a0_5 a0_6 a0_7 a0_8 l0_9 = some r) ∧ Aside0 (kq ≤ kj12) ∧ Aside0 (wc.heap[gb202]? = some (.cells #[.int .i64 a0_0, .string a0_1, .string a0_2, .int .i64 a0_3, .int .i64 a0_4, .int .i64 a0_5, .int .i64 a0_6, .bool a0_7, .bool a0_8, (.slice A0_9 l0_9.length c0_9)] 67 (0, 0))) ∧ Aside0 (Below w.heap.size w wc))
                case first =>
                  have H := HC25.out
                  clear HC25
                  by_cases c26 : a0_8 = true
                  · subst c26
                    have H1 : (if a0_7 = true then (impl_PacketOK.j2 kj12 true a0_0 a0_1 a0_2 a0_3 a0_4 a0_5 a0_6 a0_7 true l0_9) else (impl_PacketOK.j2 kj12 (decide (a0_6 > 0)) a0_0 a0_1 a0_2 a0_3 a0_4 a0_5 a0_6 a0_7 true l0_9)) = some r := by rw [if_pos rfl] at H; exact H
                    clear H
                    have H := H1
                    clear H1
                    by_cases c27 : a0_7 = true
                    · subst c27
                      have H1 : (impl_PacketOK.j2 kj12 true a0_0 a0_1 a0_2 a0_3 a0_4 a0_5 a0_6 true true l0_9) = some r := by rw [if_pos rfl] at H; exact H
                      clear H
                      have H := H1
                      clear H1
                      have H' := Aside0.mk H
                      clear H
                      have hcz28_0 : wc.cell? ⟨gb202, 0, none⟩ = some (.int .i64 a0_0) := (blk_cell BK202.out 0).trans rfl
                      have hcz28_1 : wc.cell? ⟨gb202, 1, none⟩ = some (.string a0_1) := (blk_cell BK202.out 1).trans rfl
                      have hcz28_2 : wc.cell? ⟨gb202, 2, none⟩ = some (.string a0_2) := (blk_cell BK202.out 2).trans rfl
                      have hcz28_3 : wc.cell? ⟨gb202, 3, none⟩ = some (.int .i64 a0_3) := (blk_cell BK202.out 3).trans rfl
                      have hcz28_4 : wc.cell? ⟨gb202, 4, none⟩ = some (.int .i64 a0_4) := (blk_cell BK202.out 4).trans rfl
                      have hcz28_5 : wc.cell? ⟨gb202, 5, none⟩ = some (.int .i64 a0_5) := (blk_cell BK202.out 5).trans rfl
                      have hcz28_6 : wc.cell? ⟨gb202, 6, none⟩ = some (.int .i64 a0_6) := (blk_cell BK202.out 6).trans rfl
                      have hcz28_7 : wc.cell? ⟨gb202, 7, none⟩ = some (.bool true) := (blk_cell BK202.out 7).trans rfl
                      have hcz28_8 : wc.cell? ⟨gb202, 8, none⟩ = some (.bool true) := (blk_cell BK202.out 8).trans rfl
                      have hcz28_9 : wc.cell? ⟨gb202, 9, none⟩ = some (.slice A0_9 l0_9.length c0_9) := (blk_cell BK202.out 9).trans rfl
                      have hfz28_0 := blk_frozen BK202.out 0
                      have hfz28_1 := blk_frozen BK202.out 1
                      have hfz28_2 := blk_frozen BK202.out 2
                      have hfz28_3 := blk_frozen BK202.out 3
                      have hfz28_4 := blk_frozen BK202.out 4
                      have hfz28_5 := blk_frozen BK202.out 5
                      have hfz28_6 := blk_frozen BK202.out 6
                      have hfz28_7 := blk_frozen BK202.out 7
                      have hfz28_8 := blk_frozen BK202.out 8
                      have hfz28_9 := blk_frozen BK202.out 9
                      go_wp2
                      go_meet
                      case rel => exact ⟨_, (true), (by first | rfl | (simp; done) | (simp [*]; done)), H', ⟨by have := HJ1.out; have := HJ12.out; first | omega | exact Nat.le_refl _⟩, ⟨by (with_reducible repeat (first | refine blk_drewN ?_ _ | refine blk_drew ?_ | refine blk_alloc ?_ _)); exact BK202.out⟩, ⟨by repeat (first | (with_reducible first | exact HB.out | apply below_alloc | apply pw_below_drewN | apply below_drew1 | refine below_set ?_ GE202.out) | exact HB.out)⟩⟩
                    · replace c27 := Bool.eq_false_iff.mpr c27
                      subst c27
                      have H1 : (impl_PacketOK.j2 kj12 (decide (a0_6 > 0)) a0_0 a0_1 a0_2 a0_3 a0_4 a0_5 a0_6 false true l0_9) = some r := by rw [if_neg (show ¬ (false = true) by decide)] at H; exact H
                      clear H
                      have H := H1
                      clear H1
                      have H' := Aside0.mk H
                      clear H
                      have hcz29_0 : wc.cell? ⟨gb202, 0, none⟩ = some (.int .i64 a0_0) := (blk_cell BK202.out 0).trans rfl
                      have hcz29_1 : wc.cell? ⟨gb202, 1, none⟩ = some (.string a0_1) := (blk_cell BK202.out 1).trans rfl
                      have hcz29_2 : wc.cell? ⟨gb202, 2, none⟩ = some (.string a0_2) := (blk_cell BK202.out 2).trans rfl
                      have hcz29_3 : wc.cell? ⟨gb202, 3, none⟩ = some (.int .i64 a0_3) := (blk_cell BK202.out 3).trans rfl
                      have hcz29_4 : wc.cell? ⟨gb202, 4, none⟩ = some (.int .i64 a0_4) := (blk_cell BK202.out 4).trans rfl
                      have hcz29_5 : wc.cell? ⟨gb202, 5, none⟩ = some (.int .i64 a0_5) := (blk_cell BK202.out 5).trans rfl
                      have hcz29_6 : wc.cell? ⟨gb202, 6, none⟩ = some (.int .i64 a0_6) := (blk_cell BK202.out 6).trans rfl
                      have hcz29_7 : wc.cell? ⟨gb202, 7, none⟩ = some (.bool false) := (blk_cell BK202.out 7).trans rfl
                      have hcz29_8 : wc.cell? ⟨gb202, 8, none⟩ = some (.bool true) := (blk_cell BK202.out 8).trans rfl
                      have hcz29_9 : wc.cell? ⟨gb202, 9, none⟩ = some (.slice A0_9 l0_9.length c0_9) := (blk_cell BK202.out 9).trans rfl
                      have hfz29_0 := blk_frozen BK202.out 0
                      have hfz29_1 := blk_frozen BK202.out 1
                      have hfz29_2 := blk_frozen BK202.out 2
                      have hfz29_3 := blk_frozen BK202.out 3
                      have hfz29_4 := blk_frozen BK202.out 4
                      have hfz29_5 := blk_frozen BK202.out 5
                      have hfz29_6 := blk_frozen BK202.out 6
                      have hfz29_7 := blk_frozen BK202.out 7
                      have hfz29_8 := blk_frozen BK202.out 8
                      have hfz29_9 := blk_frozen BK202.out 9
                      go_wp2
                      go_meet
                      case rel => exact ⟨_, (decide (a0_6 > 0)), (by first | rfl | (simp; done) | (simp [*]; done)), H', ⟨by have := HJ1.out; have := HJ12.out; first | omega | exact Nat.le_refl _⟩, ⟨by (with_reducible repeat (first | refine blk_drewN ?_ _ | refine blk_drew ?_ | refine blk_alloc ?_ _)); exact BK202.out⟩, ⟨by repeat (first | (with_reducible first | exact HB.out | apply below_alloc | apply pw_below_drewN | apply below_drew1 | refine below_set ?_ GE202.out) | exact HB.out)⟩⟩
                  · replace c26 := Bool.eq_false_iff.mpr c26
                    subst c26
                    have H1 : (impl_PacketOK.j2 kj12 false a0_0 a0_1 a0_2 a0_3 a0_4 a0_5 a0_6 a0_7 false l0_9) = some r := by rw [if_neg (show ¬ (false = true) by decide)] at H; exact H
                    clear H
                    have H := H1
                    clear H1
                    have H' := Aside0.mk H
                    clear H
                    have hcz30_0 : wc.cell? ⟨gb202, 0, none⟩ = some (.int .i64 a0_0) := (blk_cell BK202.out 0).trans rfl
                    have hcz30_1 : wc.cell? ⟨gb202, 1, none⟩ = some (.string a0_1) := (blk_cell BK202.out 1).trans rfl
                    have hcz30_2 : wc.cell? ⟨gb202, 2, none⟩ = some (.string a0_2) := (blk_cell BK202.out 2).trans rfl
                    have hcz30_3 : wc.cell? ⟨gb202, 3, none⟩ = some (.int .i64 a0_3) := (blk_cell BK202.out 3).trans rfl
                    have hcz30_4 : wc.cell? ⟨gb202, 4, none⟩ = some (.int .i64 a0_4) := (blk_cell BK202.out 4).trans rfl
                    have hcz30_5 : wc.cell? ⟨gb202, 5, none⟩ = some (.int .i64 a0_5) := (blk_cell BK202.out 5).trans rfl
                    have hcz30_6 : wc.cell? ⟨gb202, 6, none⟩ = some (.int .i64 a0_6) := (blk_cell BK202.out 6).trans rfl
                    have hcz30_7 : wc.cell? ⟨gb202, 7, none⟩ = some (.bool a0_7) := (blk_cell BK202.out 7).trans rfl
                    have hcz30_8 : wc.cell? ⟨gb202, 8, none⟩ = some (.bool false) := (blk_cell BK202.out 8).trans rfl
                    have hcz30_9 : wc.cell? ⟨gb202, 9, none⟩ = some (.slice A0_9 l0_9.length c0_9) := (blk_cell BK202.out 9).trans rfl
                    have hfz30_0 := blk_frozen BK202.out 0
                    have hfz30_1 := blk_frozen BK202.out 1
                    have hfz30_2 := blk_frozen BK202.out 2
                    have hfz30_3 := blk_frozen BK202.out 3
                    have hfz30_4 := blk_frozen BK202.out 4
                    have hfz30_5 := blk_frozen BK202.out 5
                    have hfz30_6 := blk_frozen BK202.out 6
                    have hfz30_7 := blk_frozen BK202.out 7
                    have hfz30_8 := blk_frozen BK202.out 8
                    have hfz30_9 := blk_frozen BK202.out 9
                    go_wp2
                    go_meet
                    case rel => exact ⟨_, (false), (by first | rfl | (simp; done) | (simp [*]; done)), H', ⟨by have := HJ1.out; have := HJ12.out; first | omega | exact Nat.le_refl _⟩, ⟨by (with_reducible repeat (first | refine blk_drewN ?_ _ | refine blk_drew ?_ | refine blk_alloc ?_ _)); exact BK202.out⟩, ⟨by repeat (first | (with_reducible first | exact HB.out | apply below_alloc | apply pw_below_drewN | apply below_drew1 | refine below_set ?_ GE202.out) | exact HB.out)⟩⟩
                case rest =>
                  clear HC25
                  try clear c1
                  try clear c2
                  try clear p2
                  try clear c4
                  try clear c5
                  try clear c7
                  try clear c8
                  try clear c11
                  try clear c12
                  try clear c12b0
                  try clear c12b1
                  try clear c15
                  try clear c15b0
                  try clear c15b1
                  try clear c16
                  try clear c16b0
                  try clear c16b1
                  try clear c18
                  try clear c24
                  try clear c26
                  try clear c27
                  try clear hcz10_0
                  try clear hcz10_1
                  try clear hcz10_2
                  try clear hcz10_3
                  try clear hcz10_4
                  try clear hcz10_5
                  try clear hcz10_6
                  try clear hcz10_7
                  try clear hcz10_8
                  try clear hcz10_9
                  try clear hcz14_0
                  try clear hcz14_1
                  try clear hcz14_2
                  try clear hcz14_3
                  try clear hcz14_4
                  try clear hcz14_5
                  try clear hcz14_6
                  try clear hcz14_7
                  try clear hcz14_8
                  try clear hcz14_9
                  try clear hcz20_0
                  try clear hcz20_1
                  try clear hcz20_2
                  try clear hcz20_3
                  try clear hcz20_4
                  try clear hcz20_5
                  try clear hcz20_6
                  try clear hcz20_7
                  try clear hcz20_8
                  try clear hcz20_9
                  try clear hcz21_0
                  try clear hcz21_1
                  try clear hcz21_2
                  try clear hcz21_3
                  try clear hcz21_4
                  try clear hcz21_5
                  try clear hcz21_6
                  try clear hcz21_7
                  try clear hcz21_8
                  try clear hcz21_9
                  try clear hcz22_0
                  try clear hcz22_1
                  try clear hcz22_2
                  try clear hcz22_3
                  try clear hcz22_4
                  try clear hcz22_5
                  try clear hcz22_6
                  try clear hcz22_7
                  try clear hcz22_8
                  try clear hcz22_9
                  try clear hcz23_0
                  try clear hcz23_1
                  try clear hcz23_2
                  try clear hcz23_3
                  try clear hcz23_4
                  try clear hcz23_5
                  try clear hcz23_6
                  try clear hcz23_7
                  try clear hcz23_8
                  try clear hcz23_9
                  try clear hcz28_0
                  try clear hcz28_1
                  try clear hcz28_2
                  try clear hcz28_3
                  try clear hcz28_4
                  try clear hcz28_5
                  try clear hcz28_6
                  try clear hcz28_7
                  try clear hcz28_8
                  try clear hcz28_9
                  try clear hcz29_0
                  try clear hcz29_1
                  try clear hcz29_2
                  try clear hcz29_3
                  try clear hcz29_4
                  try clear hcz29_5
                  try clear hcz29_6
                  try clear hcz29_7
                  try clear hcz29_8
                  try clear hcz29_9
                  try clear hcz30_0
                  try clear hcz30_1
                  try clear hcz30_2
                  try clear hcz30_3
                  try clear hcz30_4
                  try clear hcz30_5
                  try clear hcz30_6
                  try clear hcz30_7
                  try clear hcz30_8
                  try clear hcz30_9
                  try clear hcz8_0
                  try clear hcz8_1
                  try clear hcz8_2
                  try clear hcz8_3
                  try clear hcz8_4
                  try clear hcz8_5
                  try clear hcz8_6
                  try clear hcz8_7
                  try clear hcz8_8
                  try clear hcz8_9
                  try clear hcz9_0
                  try clear hcz9_1
                  try clear hcz9_2
                  try clear hcz9_3
                  try clear hcz9_4
                  try clear hcz9_5
                  try clear hcz9_6
                  try clear hcz9_7
                  try clear hcz9_8
                  try clear hcz9_9
                  try clear hfz10_0
                  try clear hfz10_1
                  try clear hfz10_2
                  try clear hfz10_3
                  try clear hfz10_4
                  try clear hfz10_5
                  try clear hfz10_6
                  try clear hfz10_7
                  try clear hfz10_8
                  try clear hfz10_9
                  try clear hfz14_0
                  try clear hfz14_1
                  try clear hfz14_2
                  try clear hfz14_3
                  try clear hfz14_4
                  try clear hfz14_5
                  try clear hfz14_6
                  try clear hfz14_7
                  try clear hfz14_8
                  try clear hfz14_9
                  try clear hfz20_0
                  try clear hfz20_1
                  try clear hfz20_2
                  try clear hfz20_3
                  try clear hfz20_4
                  try clear hfz20_5
                  try clear hfz20_6
                  try clear hfz20_7
                  try clear hfz20_8
                  try clear hfz20_9
                  try clear hfz21_0
                  try clear hfz21_1
                  try clear hfz21_2
                  try clear hfz21_3
                  try clear hfz21_4
                  try clear hfz21_5
                  try clear hfz21_6
                  try clear hfz21_7
                  try clear hfz21_8
                  try clear hfz21_9
                  try clear hfz22_0
                  try clear hfz22_1
                  try clear hfz22_2
                  try clear hfz22_3
                  try clear hfz22_4
                  try clear hfz22_5
                  try clear hfz22_6
                  try clear hfz22_7
                  try clear hfz22_8
                  try clear hfz22_9
                  try clear hfz23_0
                  try clear hfz23_1
                  try clear hfz23_2
                  try clear hfz23_3
                  try clear hfz23_4
                  try clear hfz23_5
                  try clear hfz23_6
                  try clear hfz23_7
                  try clear hfz23_8
                  try clear hfz23_9
                  try clear hfz28_0
                  try clear hfz28_1
                  try clear hfz28_2
                  try clear hfz28_3
                  try clear hfz28_4
                  try clear hfz28_5
                  try clear hfz28_6
                  try clear hfz28_7
                  try clear hfz28_8
                  try clear hfz28_9
                  try clear hfz29_0
                  try clear hfz29_1
                  try clear hfz29_2
                  try clear hfz29_3
                  try clear hfz29_4
                  try clear hfz29_5
                  try clear hfz29_6
                  try clear hfz29_7
                  try clear hfz29_8
                  try clear hfz29_9
                  try clear hfz30_0
                  try clear hfz30_1
                  try clear hfz30_2
                  try clear hfz30_3
                  try clear hfz30_4
                  try clear hfz30_5
                  try clear hfz30_6
                  try clear hfz30_7
                  try clear hfz30_8
                  try clear hfz30_9
                  try clear hfz8_0
                  try clear hfz8_1
                  try clear hfz8_2
                  try clear hfz8_3
                  try clear hfz8_4
                  try clear hfz8_5
                  try clear hfz8_6
                  try clear hfz8_7
                  try clear hfz8_8
                  try clear hfz8_9
                  try clear hfz9_0
                  try clear hfz9_1
                  try clear hfz9_2
                  try clear hfz9_3
                  try clear hfz9_4
                  try clear hfz9_5
                  try clear hfz9_6
                  try clear hfz9_7
                  try clear hfz9_8
                  try clear hfz9_9
                  try clear p2
                  obtain ⟨kq, x55_24, rfl, HA, HJ24, BK202, HB⟩ := hcut
                  cases kq with
                  | zero => exact absurd HA.out (by simp [impl_PacketOK.j2])
                  | succ kj24 =>
                    have H := HA.out
                    clear HA
                    simp only [impl_PacketOK.j2] at H
                    by_cases c31 : x55_24 = true
                    · subst c31
                      have H1 : (some false) = some r := by rw [if_pos rfl] at H; exact H
                      clear H
                      have H := H1
                      clear H1
                      obtain rfl := Option.some.inj H
                      go_wp2
                      go_ret
                      exact ⟨by first | rfl | (simp [errW_none, errW_some] <;> rfl) | (simp [*, errW_none, errW_some] <;> rfl), by repeat (first | (with_reducible first | exact HB.out | apply below_alloc | apply pw_below_drewN | apply below_drew1 | refine below_set ?_ GE202.out) | exact HB.out)⟩
                    · replace c31 := Bool.eq_false_iff.mpr c31
                      subst c31
                      have H1 : (if a0_7 = true then (if (l0_9.length : Int) = 0 then (some false) else (if ((l0_9.length : Int) % 8) = 0 then (some (decide ((wrap64 ((wrap64 (8 * a0_6)) + (l0_9.length : Int))) ≤ 65515))) else (some false))) else (some (decide ((wrap64 ((wrap64 (8 * a0_6)) + (l0_9.length : Int))) ≤ 65515)))) = some r := by rw [if_neg (show ¬ (false = true) by decide)] at H; exact H
                      clear H
                      have H := H1
                      clear H1
                      by_cases c32 : a0_7 = true
                      · subst c32
                        have H1 : (if (l0_9.length : Int) = 0 then (some false) else (if ((l0_9.length : Int) % 8) = 0 then (some (decide ((wrap64 ((wrap64 (8 * a0_6)) + (l0_9.length : Int))) ≤ 65515))) else (some false))) = some r := by rw [if_pos rfl] at H; exact H
                        clear H
                        have H := H1
                        clear H1
                        by_cases c33 : (l0_9.length : Int) = 0
                        · rw [if_pos c33] at H
                          have c33b0 : ((l0_9.length : Int) == 0) = true := beq_iff_eq.mpr c33
                          have c33b1 : ((l0_9.length : Int) != 0) = false := bne_eq_false_iff_eq.mpr c33
                          clear c33
                          obtain rfl := Option.some.inj H
                          have hcz34_0 : wc.cell? ⟨gb202, 0, none⟩ = some (.int .i64 a0_0) := (blk_cell BK202.out 0).trans rfl
                          have hcz34_1 : wc.cell? ⟨gb202, 1, none⟩ = some (.string a0_1) := (blk_cell BK202.out 1).trans rfl
                          have hcz34_2 : wc.cell? ⟨gb202, 2, none⟩ = some (.string a0_2) := (blk_cell BK202.out 2).trans rfl
                          have hcz34_3 : wc.cell? ⟨gb202, 3, none⟩ = some (.int .i64 a0_3) := (blk_cell BK202.out 3).trans rfl
                          have hcz34_4 : wc.cell? ⟨gb202, 4, none⟩ = some (.int .i64 a0_4) := (blk_cell BK202.out 4).trans rfl
                          have hcz34_5 : wc.cell? ⟨gb202, 5, none⟩ = some (.int .i64 a0_5) := (blk_cell BK202.out 5).trans rfl
                          have hcz34_6 : wc.cell? ⟨gb202, 6, none⟩ = some (.int .i64 a0_6) := (blk_cell BK202.out 6).trans rfl
                          have hcz34_7 : wc.cell? ⟨gb202, 7, none⟩ = some (.bool true) := (blk_cell BK202.out 7).trans rfl
                          have hcz34_8 : wc.cell? ⟨gb202, 8, none⟩ = some (.bool a0_8) := (blk_cell BK202.out 8).trans rfl
                          have hcz34_9 : wc.cell? ⟨gb202, 9, none⟩ = some (.slice A0_9 l0_9.length c0_9) := (blk_cell BK202.out 9).trans rfl
                          have hfz34_0 := blk_frozen BK202.out 0
                          have hfz34_1 := blk_frozen BK202.out 1
                          have hfz34_2 := blk_frozen BK202.out 2
                          have hfz34_3 := blk_frozen BK202.out 3
                          have hfz34_4 := blk_frozen BK202.out 4
                          have hfz34_5 := blk_frozen BK202.out 5
                          have hfz34_6 := blk_frozen BK202.out 6
                          have hfz34_7 := blk_frozen BK202.out 7
                          have hfz34_8 := blk_frozen BK202.out 8
                          have hfz34_9 := blk_frozen BK202.out 9
                          go_wp2
                          go_ret
                          exact ⟨by first | rfl | (simp [errW_none, errW_some] <;> rfl) | (simp [*, errW_none, errW_some] <;> rfl), by repeat (first | (with_reducible first | exact HB.out | apply below_alloc | apply pw_below_drewN | apply below_drew1 | refine below_set ?_ GE202.out) | exact HB.out)⟩
                        · rw [if_neg c33] at H
                          have c33b0 : ((l0_9.length : Int) == 0) = false := beq_eq_false_iff_ne.mpr c33
                          have c33b1 : ((l0_9.length : Int) != 0) = true := bne_iff_ne.mpr c33
                          have c33b2 : ¬ (l0_9 = []) := fun h_ => c33 (by rw [h_]; rfl)
                          by_cases c35 : ((l0_9.length : Int) % 8) = 0
                          · rw [if_pos c35] at H
                            have c35b0 : (((l0_9.length : Int) % 8) == 0) = true := beq_iff_eq.mpr c35
                            have c35b1 : (((l0_9.length : Int) % 8) != 0) = false := bne_eq_false_iff_eq.mpr c35
                            clear c35
                            obtain rfl := Option.some.inj H
                            have hcz36_0 : wc.cell? ⟨gb202, 0, none⟩ = some (.int .i64 a0_0) := (blk_cell BK202.out 0).trans rfl
                            have hcz36_1 : wc.cell? ⟨gb202, 1, none⟩ = some (.string a0_1) := (blk_cell BK202.out 1).trans rfl
                            have hcz36_2 : wc.cell? ⟨gb202, 2, none⟩ = some (.string a0_2) := (blk_cell BK202.out 2).trans rfl
                            have hcz36_3 : wc.cell? ⟨gb202, 3, none⟩ = some (.int .i64 a0_3) := (blk_cell BK202.out 3).trans rfl
                            have hcz36_4 : wc.cell? ⟨gb202, 4, none⟩ = some (.int .i64 a0_4) := (blk_cell BK202.out 4).trans rfl
                            have hcz36_5 : wc.cell? ⟨gb202, 5, none⟩ = some (.int .i64 a0_5) := (blk_cell BK202.out 5).trans rfl
                            have hcz36_6 : wc.cell? ⟨gb202, 6, none⟩ = some (.int .i64 a0_6) := (blk_cell BK202.out 6).trans rfl
                            have hcz36_7 : wc.cell? ⟨gb202, 7, none⟩ = some (.bool true) := (blk_cell BK202.out 7).trans rfl
                            have hcz36_8 : wc.cell? ⟨gb202, 8, none⟩ = some (.bool a0_8) := (blk_cell BK202.out 8).trans rfl
                            have hcz36_9 : wc.cell? ⟨gb202, 9, none⟩ = some (.slice A0_9 l0_9.length c0_9) := (blk_cell BK202.out 9).trans rfl
                            have hfz36_0 := blk_frozen BK202.out 0
                            have hfz36_1 := blk_frozen BK202.out 1
                            have hfz36_2 := blk_frozen BK202.out 2
                            have hfz36_3 := blk_frozen BK202.out 3
                            have hfz36_4 := blk_frozen BK202.out 4
                            have hfz36_5 := blk_frozen BK202.out 5
                            have hfz36_6 := blk_frozen BK202.out 6
                            have hfz36_7 := blk_frozen BK202.out 7
                            have hfz36_8 := blk_frozen BK202.out 8
                            have hfz36_9 := blk_frozen BK202.out 9
                            go_wp2
                            go_ret
                            exact ⟨by first | rfl | (simp [errW_none, errW_some] <;> rfl) | (simp [*, errW_none, errW_some] <;> rfl), by repeat (first | (with_reducible first | exact HB.out | apply below_alloc | apply pw_below_drewN | apply below_drew1 | refine below_set ?_ GE202.out) | exact HB.out)⟩
                          · rw [if_neg c35] at H
                            have c35b0 : (((l0_9.length : Int) % 8) == 0) = false := beq_eq_false_iff_ne.mpr c35
                            have c35b1 : (((l0_9.length : Int) % 8) != 0) = true := bne_iff_ne.mpr c35
                            obtain rfl := Option.some.inj H
                            have hcz37_0 : wc.cell? ⟨gb202, 0, none⟩ = some (.int .i64 a0_0) := (blk_cell BK202.out 0).trans rfl
                            have hcz37_1 : wc.cell? ⟨gb202, 1, none⟩ = some (.string a0_1) := (blk_cell BK202.out 1).trans rfl
                            have hcz37_2 : wc.cell? ⟨gb202, 2, none⟩ = some (.string a0_2) := (blk_cell BK202.out 2).trans rfl
                            have hcz37_3 : wc.cell? ⟨gb202, 3, none⟩ = some (.int .i64 a0_3) := (blk_cell BK202.out 3).trans rfl
                            have hcz37_4 : wc.cell? ⟨gb202, 4, none⟩ = some (.int .i64 a0_4) := (blk_cell BK202.out 4).trans rfl
                            have hcz37_5 : wc.cell? ⟨gb202, 5, none⟩ = some (.int .i64 a0_5) := (blk_cell BK202.out 5).trans rfl
                            have hcz37_6 : wc.cell? ⟨gb202, 6, none⟩ = some (.int .i64 a0_6) := (blk_cell BK202.out 6).trans rfl
                            have hcz37_7 : wc.cell? ⟨gb202, 7, none⟩ = some (.bool true) := (blk_cell BK202.out 7).trans rfl
                            have hcz37_8 : wc.cell? ⟨gb202, 8, none⟩ = some (.bool a0_8) := (blk_cell BK202.out 8).trans rfl
                            have hcz37_9 : wc.cell? ⟨gb202, 9, none⟩ = some (.slice A0_9 l0_9.length c0_9) := (blk_cell BK202.out 9).trans rfl
                            have hfz37_0 := blk_frozen BK202.out 0
                            have hfz37_1 := blk_frozen BK202.out 1
                            have hfz37_2 := blk_frozen BK202.out 2
                            have hfz37_3 := blk_frozen BK202.out 3
                            have hfz37_4 := blk_frozen BK202.out 4
                            have hfz37_5 := blk_frozen BK202.out 5
                            have hfz37_6 := blk_frozen BK202.out 6
                            have hfz37_7 := blk_frozen BK202.out 7
                            have hfz37_8 := blk_frozen BK202.out 8
                            have hfz37_9 := blk_frozen BK202.out 9
                            go_wp2
                            go_ret
                            exact ⟨by first | rfl | (simp [errW_none, errW_some] <;> rfl) | (simp [*, errW_none, errW_some] <;> rfl), by repeat (first | (with_reducible first | exact HB.out | apply below_alloc | apply pw_below_drewN | apply below_drew1 | refine below_set ?_ GE202.out) | exact HB.out)⟩
                      · replace c32 := Bool.eq_false_iff.mpr c32
                        subst c32
                        have H1 : (some (decide ((wrap64 ((wrap64 (8 * a0_6)) + (l0_9.length : Int))) ≤ 65515))) = some r := by rw [if_neg (show ¬ (false = true) by decide)] at H; exact H
                        clear H
                        have H := H1
                        clear H1
                        obtain rfl := Option.some.inj H
                        have hcz38_0 : wc.cell? ⟨gb202, 0, none⟩ = some (.int .i64 a0_0) := (blk_cell BK202.out 0).trans rfl
                        have hcz38_1 : wc.cell? ⟨gb202, 1, none⟩ = some (.string a0_1) := (blk_cell BK202.out 1).trans rfl
                        have hcz38_2 : wc.cell? ⟨gb202, 2, none⟩ = some (.string a0_2) := (blk_cell BK202.out 2).trans rfl
                        have hcz38_3 : wc.cell? ⟨gb202, 3, none⟩ = some (.int .i64 a0_3) := (blk_cell BK202.out 3).trans rfl
                        have hcz38_4 : wc.cell? ⟨gb202, 4, none⟩ = some (.int .i64 a0_4) := (blk_cell BK202.out 4).trans rfl
                        have hcz38_5 : wc.cell? ⟨gb202, 5, none⟩ = some (.int .i64 a0_5) := (blk_cell BK202.out 5).trans rfl
                        have hcz38_6 : wc.cell? ⟨gb202, 6, none⟩ = some (.int .i64 a0_6) := (blk_cell BK202.out 6).trans rfl
                        have hcz38_7 : wc.cell? ⟨gb202, 7, none⟩ = some (.bool false) := (blk_cell BK202.out 7).trans rfl
                        have hcz38_8 : wc.cell? ⟨gb202, 8, none⟩ = some (.bool a0_8) := (blk_cell BK202.out 8).trans rfl
                        have hcz38_9 : wc.cell? ⟨gb202, 9, none⟩ = some (.slice A0_9 l0_9.length c0_9) := (blk_cell BK202.out 9).trans rfl
                        have hfz38_0 := blk_frozen BK202.out 0
                        have hfz38_1 := blk_frozen BK202.out 1
                        have hfz38_2 := blk_frozen BK202.out 2
                        have hfz38_3 := blk_frozen BK202.out 3
                        have hfz38_4 := blk_frozen BK202.out 4
                        have hfz38_5 := blk_frozen BK202.out 5
                        have hfz38_6 := blk_frozen BK202.out 6
                        have hfz38_7 := blk_frozen BK202.out 7
                        have hfz38_8 := blk_frozen BK202.out 8
                        have hfz38_9 := blk_frozen BK202.out 9
                        go_wp2
                        go_ret
                        exact ⟨by first | rfl | (simp [errW_none, errW_some] <;> rfl) | (simp [*, errW_none, errW_some] <;> rfl), by repeat (first | (with_reducible first | exact HB.out | apply below_alloc | apply pw_below_drewN | apply below_drew1 | refine below_set ?_ GE202.out) | exact HB.out)⟩
        · rw [if_neg c12] at H
          have c12b0 : (a0_0 == 4) = false := beq_eq_false_iff_ne.mpr c12
          have c12b1 : (a0_0 != 4) = true := bne_iff_ne.mpr c12
          by_cases c39 : a0_0 = 6
          · rw [if_pos c39] at H
            have c39b0 : (a0_0 == 6) = true := beq_iff_eq.mpr c39
            have c39b1 : (a0_0 != 6) = false := bne_eq_false_iff_eq.mpr c39
            clear c39
            by_cases c40 : (a0_1.size : Int) = 16
            · rw [if_pos c40] at H
              have c40b0 : ((a0_1.size : Int) == 16) = true := beq_iff_eq.mpr c40
              have c40b1 : ((a0_1.size : Int) != 16) = false := bne_eq_false_iff_eq.mpr c40
              clear c40
              by_cases c41 : (a0_2.size : Int) = 16
              · rw [if_pos c41] at H
                have c41b0 : ((a0_2.size : Int) == 16) = true := beq_iff_eq.mpr c41
                have c41b1 : ((a0_2.size : Int) != 16) = false := bne_eq_false_iff_eq.mpr c41
                clear c41
                by_cases c42 : a0_5 = 0
                · rw [if_pos c42] at H
                  have c42b0 : (a0_5 == 0) = true := beq_iff_eq.mpr c42
                  have c42b1 : (a0_5 != 0) = false := bne_eq_false_iff_eq.mpr c42
                  clear c42
                  by_cases c43 : a0_6 = 0
                  · rw [if_pos c43] at H
                    have c43b0 : (a0_6 == 0) = true := beq_iff_eq.mpr c43
                    have c43b1 : (a0_6 != 0) = false := bne_eq_false_iff_eq.mpr c43
                    clear c43
                    by_cases c44 : a0_7 = true
                    · subst c44
                      have H1 : (some false) = some r := by rw [if_pos rfl] at H; exact H
                      clear H
                      have H := H1
                      clear H1
                      obtain rfl := Option.some.inj H
                      have hcz45_0 : wc.cell? ⟨gb202, 0, none⟩ = some (.int .i64 a0_0) := (blk_cell BK202.out 0).trans rfl
                      have hcz45_1 : wc.cell? ⟨gb202, 1, none⟩ = some (.string a0_1) := (blk_cell BK202.out 1).trans rfl
                      have hcz45_2 : wc.cell? ⟨gb202, 2, none⟩ = some (.string a0_2) := (blk_cell BK202.out 2).trans rfl
                      have hcz45_3 : wc.cell? ⟨gb202, 3, none⟩ = some (.int .i64 a0_3) := (blk_cell BK202.out 3).trans rfl
                      have hcz45_4 : wc.cell? ⟨gb202, 4, none⟩ = some (.int .i64 a0_4) := (blk_cell BK202.out 4).trans rfl
                      have hcz45_5 : wc.cell? ⟨gb202, 5, none⟩ = some (.int .i64 a0_5) := (blk_cell BK202.out 5).trans rfl
                      have hcz45_6 : wc.cell? ⟨gb202, 6, none⟩ = some (.int .i64 a0_6) := (blk_cell BK202.out 6).trans rfl
                      have hcz45_7 : wc.cell? ⟨gb202, 7, none⟩ = some (.bool true) := (blk_cell BK202.out 7).trans rfl
                      have hcz45_8 : wc.cell? ⟨gb202, 8, none⟩ = some (.bool a0_8) := (blk_cell BK202.out 8).trans rfl
                      have hcz45_9 : wc.cell? ⟨gb202, 9, none⟩ = some (.slice A0_9 l0_9.length c0_9) := (blk_cell BK202.out 9).trans rfl
                      have hfz45_0 := blk_frozen BK202.out 0
                      have hfz45_1 := blk_frozen BK202.out 1
                      have hfz45_2 := blk_frozen BK202.out 2
                      have hfz45_3 := blk_frozen BK202.out 3
                      have hfz45_4 := blk_frozen BK202.out 4
                      have hfz45_5 := blk_frozen BK202.out 5
                      have hfz45_6 := blk_frozen BK202.out 6
                      have hfz45_7 := blk_frozen BK202.out 7
                      have hfz45_8 := blk_frozen BK202.out 8
                      have hfz45_9 := blk_frozen BK202.out 9
                      go_wp2
                      go_ret
                      exact ⟨by first | rfl | (simp [errW_none, errW_some] <;> rfl) | (simp [*, errW_none, errW_some] <;> rfl), by repeat (first | (with_reducible first | exact HB.out | apply below_alloc | apply pw_below_drewN | apply below_drew1 | refine below_set ?_ GE202.out) | exact HB.out)⟩
                    · replace c44 := Bool.eq_false_iff.mpr c44
                      subst c44
                      have H1 : (some (!a0_8)) = some r := by rw [if_neg (show ¬ (false = true) by decide)] at H; exact H
                      clear H
                      have H := H1
                      clear H1
                      obtain rfl := Option.some.inj H
                      have hcz46_0 : wc.cell? ⟨gb202, 0, none⟩ = some (.int .i64 a0_0) := (blk_cell BK202.out 0).trans rfl
                      have hcz46_1 : wc.cell? ⟨gb202, 1, none⟩ = some (.string a0_1) := (blk_cell BK202.out 1).trans rfl
                      have hcz46_2 : wc.cell? ⟨gb202, 2, none⟩ = some (.string a0_2) := (blk_cell BK202.out 2).trans rfl
                      have hcz46_3 : wc.cell? ⟨gb202, 3, none⟩ = some (.int .i64 a0_3) := (blk_cell BK202.out 3).trans rfl
                      have hcz46_4 : wc.cell? ⟨gb202, 4, none⟩ = some (.int .i64 a0_4) := (blk_cell BK202.out 4).trans rfl
                      have hcz46_5 : wc.cell? ⟨gb202, 5, none⟩ = some (.int .i64 a0_5) := (blk_cell BK202.out 5).trans rfl
                      have hcz46_6 : wc.cell? ⟨gb202, 6, none⟩ = some (.int .i64 a0_6) := (blk_cell BK202.out 6).trans rfl
                      have hcz46_7 : wc.cell? ⟨gb202, 7, none⟩ = some (.bool false) := (blk_cell BK202.out 7).trans rfl
                      have hcz46_8 : wc.cell? ⟨gb202, 8, none⟩ = some (.bool a0_8) := (blk_cell BK202.out 8).trans rfl
                      have hcz46_9 : wc.cell? ⟨gb202, 9, none⟩ = some (.slice A0_9 l0_9.length c0_9) := (blk_cell BK202.out 9).trans rfl
                      have hfz46_0 := blk_frozen BK202.out 0
                      have hfz46_1 := blk_frozen BK202.out 1
                      have hfz46_2 := blk_frozen BK202.out 2
                      have hfz46_3 := blk_frozen BK202.out 3
                      have hfz46_4 := blk_frozen BK202.out 4
                      have hfz46_5 := blk_frozen BK202.out 5
                      have hfz46_6 := blk_frozen BK202.out 6
                      have hfz46_7 := blk_frozen BK202.out 7
                      have hfz46_8 := blk_frozen BK202.out 8
                      have hfz46_9 := blk_frozen BK202.out 9
                      go_wp2
                      go_ret
                      exact ⟨by first | rfl | (simp [errW_none, errW_some] <;> rfl) | (simp [*, errW_none, errW_some] <;> rfl), by repeat (first | (with_reducible first | exact HB.out | apply below_alloc | apply pw_below_drewN | apply below_drew1 | refine below_set ?_ GE202.out) | exact HB.out)⟩
                  · rw [if_neg c43] at H
                    have c43b0 : (a0_6 == 0) = false := beq_eq_false_iff_ne.mpr c43
                    have c43b1 : (a0_6 != 0) = true := bne_iff_ne.mpr c43
                    obtain rfl := Option.some.inj H
                    have hcz47_0 : wc.cell? ⟨gb202, 0, none⟩ = some (.int .i64 a0_0) := (blk_cell BK202.out 0).trans rfl
                    have hcz47_1 : wc.cell? ⟨gb202, 1, none⟩ = some (.string a0_1) := (blk_cell BK202.out 1).trans rfl
                    have hcz47_2 : wc.cell? ⟨gb202, 2, none⟩ = some (.string a0_2) := (blk_cell BK202.out 2).trans rfl
                    have hcz47_3 : wc.cell? ⟨gb202, 3, none⟩ = some (.int .i64 a0_3) := (blk_cell BK202.out 3).trans rfl
                    have hcz47_4 : wc.cell? ⟨gb202, 4, none⟩ = some (.int .i64 a0_4) := (blk_cell BK202.out 4).trans rfl
                    have hcz47_5 : wc.cell? ⟨gb202, 5, none⟩ = some (.int .i64 a0_5) := (blk_cell BK202.out 5).trans rfl
                    have hcz47_6 : wc.cell? ⟨gb202, 6, none⟩ = some (.int .i64 a0_6) := (blk_cell BK202.out 6).trans rfl
                    have hcz47_7 : wc.cell? ⟨gb202, 7, none⟩ = some (.bool a0_7) := (blk_cell BK202.out 7).trans rfl
                    have hcz47_8 : wc.cell? ⟨gb202, 8, none⟩ = some (.bool a0_8) := (blk_cell BK202.out 8).trans rfl
                    have hcz47_9 : wc.cell? ⟨gb202, 9, none⟩ = some (.slice A0_9 l0_9.length c0_9) := (blk_cell BK202.out 9).trans rfl
                    have hfz47_0 := blk_frozen BK202.out 0
                    have hfz47_1 := blk_frozen BK202.out 1
                    have hfz47_2 := blk_frozen BK202.out 2
                    have hfz47_3 := blk_frozen BK202.out 3
                    have hfz47_4 := blk_frozen BK202.out 4
                    have hfz47_5 := blk_frozen BK202.out 5
                    have hfz47_6 := blk_frozen BK202.out 6
                    have hfz47_7 := blk_frozen BK202.out 7
                    have hfz47_8 := blk_frozen BK202.out 8
                    have hfz47_9 := blk_frozen BK202.out 9
                    go_wp2
                    go_ret
                    exact ⟨by first | rfl | (simp [errW_none, errW_some] <;> rfl) | (simp [*, errW_none, errW_some] <;> rfl), by repeat (first | (with_reducible first | exact HB.out | apply below_alloc | apply pw_below_drewN | apply below_drew1 | refine below_set ?_ GE202.out) | exact HB.out)⟩
                · rw [if_neg c42] at H
                  have c42b0 : (a0_5 == 0) = false := beq_eq_false_iff_ne.mpr c42
                  have c42b1 : (a0_5 != 0) = true := bne_iff_ne.mpr c42
                  obtain rfl := Option.some.inj H
                  have hcz48_0 : wc.cell? ⟨gb202, 0, none⟩ = some (.int .i64 a0_0) := (blk_cell BK202.out 0).trans rfl
                  have hcz48_1 : wc.cell? ⟨gb202, 1, none⟩ = some (.string a0_1) := (blk_cell BK202.out 1).trans rfl
                  have hcz48_2 : wc.cell? ⟨gb202, 2, none⟩ = some (.string a0_2) := (blk_cell BK202.out 2).trans rfl
                  have hcz48_3 : wc.cell? ⟨gb202, 3, none⟩ = some (.int .i64 a0_3) := (blk_cell BK202.out 3).trans rfl
                  have hcz48_4 : wc.cell? ⟨gb202, 4, none⟩ = some (.int .i64 a0_4) := (blk_cell BK202.out 4).trans rfl
                  have hcz48_5 : wc.cell? ⟨gb202, 5, none⟩ = some (.int .i64 a0_5) := (blk_cell BK202.out 5).trans rfl
                  have hcz48_6 : wc.cell? ⟨gb202, 6, none⟩ = some (.int .i64 a0_6) := (blk_cell BK202.out 6).trans rfl
                  have hcz48_7 : wc.cell? ⟨gb202, 7, none⟩ = some (.bool a0_7) := (blk_cell BK202.out 7).trans rfl
                  have hcz48_8 : wc.cell? ⟨gb202, 8, none⟩ = some (.bool a0_8) := (blk_cell BK202.out 8).trans rfl
                  have hcz48_9 : wc.cell? ⟨gb202, 9, none⟩ = some (.slice A0_9 l0_9.length c0_9) := (blk_cell BK202.out 9).trans rfl
                  have hfz48_0 := blk_frozen BK202.out 0
                  have hfz48_1 := blk_frozen BK202.out 1
                  have hfz48_2 := blk_frozen BK202.out 2
                  have hfz48_3 := blk_frozen BK202.out 3
                  have hfz48_4 := blk_frozen BK202.out 4
                  have hfz48_5 := blk_frozen BK202.out 5
                  have hfz48_6 := blk_frozen BK202.out 6
                  have hfz48_7 := blk_frozen BK202.out 7
                  have hfz48_8 := blk_frozen BK202.out 8
                  have hfz48_9 := blk_frozen BK202.out 9
                  go_wp2
                  go_ret
                  exact ⟨by first | rfl | (simp [errW_none, errW_some] <;> rfl) | (simp [*, errW_none, errW_some] <;> rfl), by repeat (first | (with_reducible first | exact HB.out | apply below_alloc | apply pw_below_drewN | apply below_drew1 | refine below_set ?_ GE202.out) | exact HB.out)⟩
              · rw [if_neg c41] at H
                have c41b0 : ((a0_2.size : Int) == 16) = false := beq_eq_false_iff_ne.mpr c41
                have c41b1 : ((a0_2.size : Int) != 16) = true := bne_iff_ne.mpr c41
                obtain rfl := Option.some.inj H
                have hcz49_0 : wc.cell? ⟨gb202, 0, none⟩ = some (.int .i64 a0_0) := (blk_cell BK202.out 0).trans rfl
                have hcz49_1 : wc.cell? ⟨gb202, 1, none⟩ = some (.string a0_1) := (blk_cell BK202.out 1).trans rfl
                have hcz49_2 : wc.cell? ⟨gb202, 2, none⟩ = some (.string a0_2) := (blk_cell BK202.out 2).trans rfl
                have hcz49_3 : wc.cell? ⟨gb202, 3, none⟩ = some (.int .i64 a0_3) := (blk_cell BK202.out 3).trans rfl
                have hcz49_4 : wc.cell? ⟨gb202, 4, none⟩ = some (.int .i64 a0_4) := (blk_cell BK202.out 4).trans rfl
                have hcz49_5 : wc.cell? ⟨gb202, 5, none⟩ = some (.int .i64 a0_5) := (blk_cell BK202.out 5).trans rfl
                have hcz49_6 : wc.cell? ⟨gb202, 6, none⟩ = some (.int .i64 a0_6) := (blk_cell BK202.out 6).trans rfl
                have hcz49_7 : wc.cell? ⟨gb202, 7, none⟩ = some (.bool a0_7) := (blk_cell BK202.out 7).trans rfl
                have hcz49_8 : wc.cell? ⟨gb202, 8, none⟩ = some (.bool a0_8) := (blk_cell BK202.out 8).trans rfl
                have hcz49_9 : wc.cell? ⟨gb202, 9, none⟩ = some (.slice A0_9 l0_9.length c0_9) := (blk_cell BK202.out 9).trans rfl
                have hfz49_0 := blk_frozen BK202.out 0
                have hfz49_1 := blk_frozen BK202.out 1
                have hfz49_2 := blk_frozen BK202.out 2
                have hfz49_3 := blk_frozen BK202.out 3
                have hfz49_4 := blk_frozen BK202.out 4
                have hfz49_5 := blk_frozen BK202.out 5
                have hfz49_6 := blk_frozen BK202.out 6
                have hfz49_7 := blk_frozen BK202.out 7
                have hfz49_8 := blk_frozen BK202.out 8
                have hfz49_9 := blk_frozen BK202.out 9
                go_wp2
                go_ret
                exact ⟨by first | rfl | (simp [errW_none, errW_some] <;> rfl) | (simp [*, errW_none, errW_some] <;> rfl), by repeat (first | (with_reducible first | exact HB.out | apply below_alloc | apply pw_below_drewN | apply below_drew1 | refine below_set ?_ GE202.out) | exact HB.out)⟩
            · rw [if_neg c40] at H
              have c40b0 : ((a0_1.size : Int) == 16) = false := beq_eq_false_iff_ne.mpr c40
              have c40b1 : ((a0_1.size : Int) != 16) = true := bne_iff_ne.mpr c40
              obtain rfl := Option.some.inj H
              have hcz50_0 : wc.cell? ⟨gb202, 0, none⟩ = some (.int .i64 a0_0) := (blk_cell BK202.out 0).trans rfl
              have hcz50_1 : wc.cell? ⟨gb202, 1, none⟩ = some (.string a0_1) := (blk_cell BK202.out 1).trans rfl
              have hcz50_2 : wc.cell? ⟨gb202, 2, none⟩ = some (.string a0_2) := (blk_cell BK202.out 2).trans rfl
              have hcz50_3 : wc.cell? ⟨gb202, 3, none⟩ = some (.int .i64 a0_3) := (blk_cell BK202.out 3).trans rfl
              have hcz50_4 : wc.cell? ⟨gb202, 4, none⟩ = some (.int .i64 a0_4) := (blk_cell BK202.out 4).trans rfl
              have hcz50_5 : wc.cell? ⟨gb202, 5, none⟩ = some (.int .i64 a0_5) := (blk_cell BK202.out 5).trans rfl
              have hcz50_6 : wc.cell? ⟨gb202, 6, none⟩ = some (.int .i64 a0_6) := (blk_cell BK202.out 6).trans rfl
              have hcz50_7 : wc.cell? ⟨gb202, 7, none⟩ = some (.bool a0_7) := (blk_cell BK202.out 7).trans rfl
              have hcz50_8 : wc.cell? ⟨gb202, 8, none⟩ = some (.bool a0_8) := (blk_cell BK202.out 8).trans rfl
              have hcz50_9 : wc.cell? ⟨gb202, 9, none⟩ = some (.slice A0_9 l0_9.length c0_9) := (blk_cell BK202.out 9).trans rfl
              have hfz50_0 := blk_frozen BK202.out 0
              have hfz50_1 := blk_frozen BK202.out 1
              have hfz50_2 := blk_frozen BK202.out 2
              have hfz50_3 := blk_frozen BK202.out 3
              have hfz50_4 := blk_frozen BK202.out 4
              have hfz50_5 := blk_frozen BK202.out 5
              have hfz50_6 := blk_frozen BK202.out 6
              have hfz50_7 := blk_frozen BK202.out 7
              have hfz50_8 := blk_frozen BK202.out 8
              have hfz50_9 := blk_frozen BK202.out 9
              go_wp2
              go_ret
              exact ⟨by first | rfl | (simp [errW_none, errW_some] <;> rfl) | (simp [*, errW_none, errW_some] <;> rfl), by repeat (first | (with_reducible first | exact HB.out | apply below_alloc | apply pw_below_drewN | apply below_drew1 | refine below_set ?_ GE202.out) | exact HB.out)⟩
          · rw [if_neg c39] at H
            have c39b0 : (a0_0 == 6) = false := beq_eq_false_iff_ne.mpr c39
            have c39b1 : (a0_0 != 6) = true := bne_iff_ne.mpr c39
            obtain rfl := Option.some.inj H
            have hcz51_0 : wc.cell? ⟨gb202, 0, none⟩ = some (.int .i64 a0_0) := (blk_cell BK202.out 0).trans rfl
            have hcz51_1 : wc.cell? ⟨gb202, 1, none⟩ = some (.string a0_1) := (blk_cell BK202.out 1).trans rfl
            have hcz51_2 : wc.cell? ⟨gb202, 2, none⟩ = some (.string a0_2) := (blk_cell BK202.out 2).trans rfl
            have hcz51_3 : wc.cell? ⟨gb202, 3, none⟩ = some (.int .i64 a0_3) := (blk_cell BK202.out 3).trans rfl
            have hcz51_4 : wc.cell? ⟨gb202, 4, none⟩ = some (.int .i64 a0_4) := (blk_cell BK202.out 4).trans rfl
            have hcz51_5 : wc.cell? ⟨gb202, 5, none⟩ = some (.int .i64 a0_5) := (blk_cell BK202.out 5).trans rfl
            have hcz51_6 : wc.cell? ⟨gb202, 6, none⟩ = some (.int .i64 a0_6) := (blk_cell BK202.out 6).trans rfl
            have hcz51_7 : wc.cell? ⟨gb202, 7, none⟩ = some (.bool a0_7) := (blk_cell BK202.out 7).trans rfl
            have hcz51_8 : wc.cell? ⟨gb202, 8, none⟩ = some (.bool a0_8) := (blk_cell BK202.out 8).trans rfl
            have hcz51_9 : wc.cell? ⟨gb202, 9, none⟩ = some (.slice A0_9 l0_9.length c0_9) := (blk_cell BK202.out 9).trans rfl
            have hfz51_0 := blk_frozen BK202.out 0
            have hfz51_1 := blk_frozen BK202.out 1
            have hfz51_2 := blk_frozen BK202.out 2
            have hfz51_3 := blk_frozen BK202.out 3
            have hfz51_4 := blk_frozen BK202.out 4
            have hfz51_5 := blk_frozen BK202.out 5
            have hfz51_6 := blk_frozen BK202.out 6
            have hfz51_7 := blk_frozen BK202.out 7
            have hfz51_8 := blk_frozen BK202.out 8
            have hfz51_9 := blk_frozen BK202.out 9
            go_wp2
            go_ret
            exact ⟨by first | rfl | (simp [errW_none, errW_some] <;> rfl) | (simp [*, errW_none, errW_some] <;> rfl), by repeat (first | (with_reducible first | exact HB.out | apply below_alloc | apply pw_below_drewN | apply below_drew1 | refine below_set ?_ GE202.out) | exact HB.out)⟩

end Go.Proofs.Ytjfpkfophfelmaa.QFnExactPacketBytes
