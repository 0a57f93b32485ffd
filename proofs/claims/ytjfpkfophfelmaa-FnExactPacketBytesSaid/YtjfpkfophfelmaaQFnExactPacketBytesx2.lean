-- written by a program of this session
import Derived.Test.YtjfpkfophfelmaaQFnExactPacketBytesx0
import Derived.Test.YtjfpkfophfelmaaQFnExactPacketBytesx1
namespace Go.Proofs.Ytjfpkfophfelmaa.QFnExactPacketBytes
open Go.RowKit Go.Proofs.YtjfpkfophfelmaaV.PrintWords Go.Proofs.YtjfpkfophfelmaaV.PrintLast Go.Proofs.YtjfpkfophfelmaaV.PrintMore
attribute [local go_sem] max2_int min2_int max_two min_two max_three min_three max_four min_four   -- for this text's walks alone
set_option linter.unusedVariables false
set_option linter.unusedSimpArgs false

/-! ### spec_PacketOK: function 110 -/
def spec_PacketOK.j0 : Nat → Bool → Int → ByteArray → ByteArray → Int → Int → Int → Int → Bool → Bool → List Int → Option (Bool)
  | 0, _, _, _, _, _, _, _, _, _, _, _ => none
  | k + 1, x18, x108000, x108001, x108002, x108003, x108004, x108005, x108006, x108007, x108008, x108009 => if x18 = true then (some false) else (if x108000 = 4 then (if (x108001.size : Int) = 4 then (if (x108002.size : Int) = 4 then ((spec_l01In.f x108005 0 65535).bind fun t110 => (if t110 = true then ((spec_l01In.f x108006 0 8191).bind fun t111 => (if t111 = true then (if x108008 = true then (if x108007 = true then (some false) else (if x108006 > 0 then (some false) else (some (decide ((wrap64 ((wrap64 (8 * x108006)) + (x108009.length : Int))) ≤ 65515))))) else (if x108007 = true then (if ((x108009.length : Int) % 8) = 0 then (if (x108009.length : Int) > 0 then (some (decide ((wrap64 ((wrap64 (8 * x108006)) + (x108009.length : Int))) ≤ 65515))) else (some false)) else (some false)) else (some (decide ((wrap64 ((wrap64 (8 * x108006)) + (x108009.length : Int))) ≤ 65515))))) else (some false))) else (some false))) else (some false)) else (some false)) else (if x108000 = 6 then (if (x108001.size : Int) = 16 then (if (x108002.size : Int) = 16 then (if x108005 = 0 then (if x108006 = 0 then (if x108007 = true then (some false) else (some (!x108008))) else (some false)) else (some false)) else (some false)) else (some false)) else (some false)))
def spec_PacketOK.f (k : Nat) (a0_0 : Int) (a0_1 : ByteArray) (a0_2 : ByteArray) (a0_3 : Int) (a0_4 : Int) (a0_5 : Int) (a0_6 : Int) (a0_7 : Bool) (a0_8 : Bool) (l0_9 : List Int) : Option (Bool) := if (l0_9.length : Int) > 1500 then (spec_PacketOK.j0 k true a0_0 a0_1 a0_2 a0_3 a0_4 a0_5 a0_6 a0_7 a0_8 l0_9) else ((spec_l01In.f a0_3 0 255).bind fun t108 => (if t108 = true then ((spec_l01In.f a0_4 0 255).bind fun t109 => (spec_PacketOK.j0 k (!t109) a0_0 a0_1 a0_2 a0_3 a0_4 a0_5 a0_6 a0_7 a0_8 l0_9)) else (spec_PacketOK.j0 k true a0_0 a0_1 a0_2 a0_3 a0_4 a0_5 a0_6 a0_7 a0_8 l0_9)))
theorem spec_PacketOK.mono_l : ∀ k, (∀ y0 y1 y2 y3 y4 y5 y6 y7 y8 y9 y10, LeO (spec_PacketOK.j0 k y0 y1 y2 y3 y4 y5 y6 y7 y8 y9 y10) (spec_PacketOK.j0 (k + 1) y0 y1 y2 y3 y4 y5 y6 y7 y8 y9 y10))
  | 0 => fun _ _ _ _ _ _ _ _ _ _ _ r h => by simp [spec_PacketOK.j0] at h
  | k + 1 => by
    have ih0 := spec_PacketOK.mono_l k
    · intro y0 y1 y2 y3 y4 y5 y6 y7 y8 y9 y10
      unfold spec_PacketOK.j0
      repeat' first
      | (with_reducible exact ih0 _ _ _ _ _ _ _ _ _ _ _)
      | (with_reducible exact LeO.refl _)
      | (with_reducible exact LeO.none _)
      | (with_reducible refine LeO.ite ?_ ?_)
      | (with_reducible refine LeO.bind ?_ (fun _ => ?_))
      | exact ih0 _ _ _ _ _ _ _ _ _ _ _
      | exact LeO.none _
      | refine LeO.ite ?_ ?_
      | refine LeO.bind ?_ (fun _ => ?_)
theorem spec_PacketOK.mono : ∀ a0 a1 a2 a3 a4 a5 a6 a7 a8 a9 k, LeO (spec_PacketOK.f k a0 a1 a2 a3 a4 a5 a6 a7 a8 a9) (spec_PacketOK.f (k + 1) a0 a1 a2 a3 a4 a5 a6 a7 a8 a9) := by
  intro a0 a1 a2 a3 a4 a5 a6 a7 a8 a9 k
  have ih0 := spec_PacketOK.mono_l k
  unfold spec_PacketOK.f
  repeat' first
      | (with_reducible exact ih0 _ _ _ _ _ _ _ _ _ _ _)
      | (with_reducible exact LeO.refl _)
      | (with_reducible exact LeO.none _)
      | (with_reducible refine LeO.ite ?_ ?_)
      | (with_reducible refine LeO.bind ?_ (fun _ => ?_))
      | exact ih0 _ _ _ _ _ _ _ _ _ _ _
      | exact LeO.none _
      | refine LeO.ite ?_ ?_
      | refine LeO.bind ?_ (fun _ => ?_)
set_option maxHeartbeats 8000000 in
set_option maxRecDepth 100000 in
theorem spec_PacketOK.calls (k : Nat) (a0_0 : Int) (a0_1 : ByteArray) (a0_2 : ByteArray) (a0_3 : Int) (a0_4 : Int) (a0_5 : Int) (a0_6 : Int) (a0_7 : Bool) (a0_8 : Bool) (A0_9 : Option Addr) (c0_9 : Nat) (l0_9 : List Int) (r : Bool) (w : World) (hr0_9 : Kd.C (Kd.int .u8) w A0_9 l0_9.length l0_9) (hc0_9 : l0_9.length ≤ c0_9) (h : spec_PacketOK.f k a0_0 a0_1 a0_2 a0_3 a0_4 a0_5 a0_6 a0_7 a0_8 l0_9 = some r) :
    Calls Try.prog 110 #[.agg #[.int .i64 a0_0, .string a0_1, .string a0_2, .int .i64 a0_3, .int .i64 a0_4, .int .i64 a0_5, .int .i64 a0_6, .bool a0_7, .bool a0_8, .slice A0_9 l0_9.length c0_9]] w fun e w' => e = .returned (.bool r) ∧ Below w.heap.size w w' := by
  have hu67 := Try.underlying67
  have HR0_9 := Aside0.mk hr0_9
  have HC0_9 := Aside0.mk hc0_9
  clear hr0_9 hc0_9
  have HB := Aside0.mk (Below.refl w.heap.size w)
  have H : (if (l0_9.length : Int) > 1500 then (spec_PacketOK.j0 k true a0_0 a0_1 a0_2 a0_3 a0_4 a0_5 a0_6 a0_7 a0_8 l0_9) else ((spec_l01In.f a0_3 0 255).bind fun t108 => (if t108 = true then ((spec_l01In.f a0_4 0 255).bind fun t109 => (spec_PacketOK.j0 k (!t109) a0_0 a0_1 a0_2 a0_3 a0_4 a0_5 a0_6 a0_7 a0_8 l0_9)) else (spec_PacketOK.j0 k true a0_0 a0_1 a0_2 a0_3 a0_4 a0_5 a0_6 a0_7 a0_8 l0_9)))) = some r := h
  clear h
  have HC2 := Aside0.mk H
  clear H
  go_enter Try.func110, Try.ntmps110
  go_upto_region 1 with (first | ((with_reducible refine gate_dst (N := 1) rfl ?_); refine box_event ?hg (N := 1) ?hd (cs := #[.int .i64 a0_0, .string a0_1, .string a0_2, .int .i64 a0_3, .int .i64 a0_4, .int .i64 a0_5, .int .i64 a0_6, .bool a0_7, .bool a0_8, .slice A0_9 l0_9.length c0_9]) (t := 67) ?hr ?_; (case hd => rfl); (case hg => rfl); (case hr => first | (go_simp; done) | (go_simp; rfl)); intro gb107 hg w3 hbox hb; have n0_ := Aside0.mk (below_step (by repeat (first | (with_reducible first | exact HB.out | apply below_alloc | apply pw_below_drewN | apply below_drew1) | exact HB.out)) hb); have n1_ := Aside0.mk (hbox); have n2_ := Aside0.mk ((by rw [hg]; exact (below_size (by repeat (first | (with_reducible first | exact HB.out | apply below_alloc | apply pw_below_drewN | apply below_drew1) | exact HB.out))) : w.heap.size ≤ gb107)); have n3_ := Aside0.mk ((by rw [hg]; exact (below_size (by repeat (first | (with_reducible first | exact HB.out | apply below_alloc | apply pw_below_drewN | apply below_drew1) | exact HB.out))) : w.heap.size ≤ gb107)); clear HB; have HB := n0_; have BK107 := n1_; have GW107 := n2_; have GE107 := n3_; clear n0_ n1_ n2_ n3_; clear hb hbox hg))
  (try simp only [Act.put, List.setIfInBounds_toArray, List.set_cons_zero, List.set_cons_succ])
  go_cut [18] (fun v18 wc => ∃ (kq : Nat) (x18_1 : Bool), v18 = .bool x18_1 ∧ Aside0 (spec_PacketOK.j0 kq x18_1 a0_0 a0_1 a0_2 a0_3 a0_4 a0_5 a0_6 a0_7 a0_8 l0_9 = some r) ∧ Aside0 (kq ≤ k) ∧ Aside0 (wc.heap[gb107]? = some (.cells #[.int .i64 a0_0, .string a0_1, .string a0_2, .int .i64 a0_3, .int .i64 a0_4, .int .i64 a0_5, .int .i64 a0_6, .bool a0_7, .bool a0_8, (.slice A0_9 l0_9.length c0_9)] 67 (0, 0))) ∧ Aside0 (Below w.heap.size w wc))
  case first =>
    have H := HC2.out
    clear HC2
    by_cases c4 : (l0_9.length : Int) > 1500
    · rw [if_pos c4] at H
      have c4b0 : decide (1500 < (l0_9.length : Int)) = true := decide_eq_true c4
      have c4b1 : decide (1500 < l0_9.length) = true := decide_eq_true (by omega)
      clear c4
      (first | rw [c4b0] | (simp only [i64_w, i32_w]; rw [c4b0]) | skip)
      have H' := Aside0.mk H
      clear H
      have hcz5_0 : w3.cell? ⟨gb107, 0, none⟩ = some (.int .i64 a0_0) := (blk_cell BK107.out 0).trans rfl
      have hcz5_1 : w3.cell? ⟨gb107, 1, none⟩ = some (.string a0_1) := (blk_cell BK107.out 1).trans rfl
      have hcz5_2 : w3.cell? ⟨gb107, 2, none⟩ = some (.string a0_2) := (blk_cell BK107.out 2).trans rfl
      have hcz5_3 : w3.cell? ⟨gb107, 3, none⟩ = some (.int .i64 a0_3) := (blk_cell BK107.out 3).trans rfl
      have hcz5_4 : w3.cell? ⟨gb107, 4, none⟩ = some (.int .i64 a0_4) := (blk_cell BK107.out 4).trans rfl
      have hcz5_5 : w3.cell? ⟨gb107, 5, none⟩ = some (.int .i64 a0_5) := (blk_cell BK107.out 5).trans rfl
      have hcz5_6 : w3.cell? ⟨gb107, 6, none⟩ = some (.int .i64 a0_6) := (blk_cell BK107.out 6).trans rfl
      have hcz5_7 : w3.cell? ⟨gb107, 7, none⟩ = some (.bool a0_7) := (blk_cell BK107.out 7).trans rfl
      have hcz5_8 : w3.cell? ⟨gb107, 8, none⟩ = some (.bool a0_8) := (blk_cell BK107.out 8).trans rfl
      have hcz5_9 : w3.cell? ⟨gb107, 9, none⟩ = some (.slice A0_9 l0_9.length c0_9) := (blk_cell BK107.out 9).trans rfl
      have hfz5_0 := blk_frozen BK107.out 0
      have hfz5_1 := blk_frozen BK107.out 1
      have hfz5_2 := blk_frozen BK107.out 2
      have hfz5_3 := blk_frozen BK107.out 3
      have hfz5_4 := blk_frozen BK107.out 4
      have hfz5_5 := blk_frozen BK107.out 5
      have hfz5_6 := blk_frozen BK107.out 6
      have hfz5_7 := blk_frozen BK107.out 7
      have hfz5_8 := blk_frozen BK107.out 8
      have hfz5_9 := blk_frozen BK107.out 9
      go_wp2
      go_meet
      case rel => exact ⟨_, (true), (by first | rfl | (simp; done) | (simp [*]; done)), H', ⟨by first | omega | exact Nat.le_refl _⟩, ⟨by (with_reducible repeat (first | refine blk_drewN ?_ _ | refine blk_drew ?_ | refine blk_alloc ?_ _)); exact BK107.out⟩, ⟨by repeat (first | (with_reducible first | exact HB.out | apply below_alloc | apply pw_below_drewN | apply below_drew1 | refine below_set ?_ GE107.out) | exact HB.out)⟩⟩
    · rw [if_neg c4] at H
      have c4b0 : decide (1500 < (l0_9.length : Int)) = false := decide_eq_false c4
      have c4b1 : decide (1500 < l0_9.length) = false := decide_eq_false (by omega)
      clear c4
      (first | rw [c4b0] | (simp only [i64_w, i32_w]; rw [c4b0]) | skip)
      replace H := Option.bind_eq_some_iff.mp H
      obtain ⟨t108, A60, H⟩ := H
      replace H : (if t108 = true then ((spec_l01In.f a0_4 0 255).bind fun t109 => (spec_PacketOK.j0 k (!t109) a0_0 a0_1 a0_2 a0_3 a0_4 a0_5 a0_6 a0_7 a0_8 l0_9)) else (spec_PacketOK.j0 k true a0_0 a0_1 a0_2 a0_3 a0_4 a0_5 a0_6 a0_7 a0_8 l0_9)) = some r := H
      have A6 := Aside0.mk A60
      clear A60
      by_cases c7 : t108 = true
      · subst c7
        have H1 : ((spec_l01In.f a0_4 0 255).bind fun t109 => (spec_PacketOK.j0 k (!t109) a0_0 a0_1 a0_2 a0_3 a0_4 a0_5 a0_6 a0_7 a0_8 l0_9)) = some r := by rw [if_pos rfl] at H; exact H
        clear H
        have H := H1
        clear H1
        replace H := Option.bind_eq_some_iff.mp H
        obtain ⟨t109, A80, H⟩ := H
        replace H : (spec_PacketOK.j0 k (!t109) a0_0 a0_1 a0_2 a0_3 a0_4 a0_5 a0_6 a0_7 a0_8 l0_9) = some r := H
        have A8 := Aside0.mk A80
        clear A80
        have H' := Aside0.mk H
        clear H
        have hcz9_0 : w3.cell? ⟨gb107, 0, none⟩ = some (.int .i64 a0_0) := (blk_cell BK107.out 0).trans rfl
        have hcz9_1 : w3.cell? ⟨gb107, 1, none⟩ = some (.string a0_1) := (blk_cell BK107.out 1).trans rfl
        have hcz9_2 : w3.cell? ⟨gb107, 2, none⟩ = some (.string a0_2) := (blk_cell BK107.out 2).trans rfl
        have hcz9_3 : w3.cell? ⟨gb107, 3, none⟩ = some (.int .i64 a0_3) := (blk_cell BK107.out 3).trans rfl
        have hcz9_4 : w3.cell? ⟨gb107, 4, none⟩ = some (.int .i64 a0_4) := (blk_cell BK107.out 4).trans rfl
        have hcz9_5 : w3.cell? ⟨gb107, 5, none⟩ = some (.int .i64 a0_5) := (blk_cell BK107.out 5).trans rfl
        have hcz9_6 : w3.cell? ⟨gb107, 6, none⟩ = some (.int .i64 a0_6) := (blk_cell BK107.out 6).trans rfl
        have hcz9_7 : w3.cell? ⟨gb107, 7, none⟩ = some (.bool a0_7) := (blk_cell BK107.out 7).trans rfl
        have hcz9_8 : w3.cell? ⟨gb107, 8, none⟩ = some (.bool a0_8) := (blk_cell BK107.out 8).trans rfl
        have hcz9_9 : w3.cell? ⟨gb107, 9, none⟩ = some (.slice A0_9 l0_9.length c0_9) := (blk_cell BK107.out 9).trans rfl
        have hfz9_0 := blk_frozen BK107.out 0
        have hfz9_1 := blk_frozen BK107.out 1
        have hfz9_2 := blk_frozen BK107.out 2
        have hfz9_3 := blk_frozen BK107.out 3
        have hfz9_4 := blk_frozen BK107.out 4
        have hfz9_5 := blk_frozen BK107.out 5
        have hfz9_6 := blk_frozen BK107.out 6
        have hfz9_7 := blk_frozen BK107.out 7
        have hfz9_8 := blk_frozen BK107.out 8
        have hfz9_9 := blk_frozen BK107.out 9
        go_wp2_with (first | (go_at_call 100; (with_reducible refine (spec_l01In.calls a0_3 0 255 true _ A6.out).mono ?_); rintro e w' ⟨rfl, ⟨nd, rfl⟩⟩) | (go_at_call 100; (with_reducible refine (spec_l01In.calls a0_4 0 255 t109 _ A8.out).mono ?_); rintro e w' ⟨rfl, ⟨nd, rfl⟩⟩))
        go_meet
        case rel => exact ⟨_, (!t109), (by first | rfl | (simp; done) | (simp [*]; done)), H', ⟨by first | omega | exact Nat.le_refl _⟩, ⟨by (with_reducible repeat (first | refine blk_drewN ?_ _ | refine blk_drew ?_ | refine blk_alloc ?_ _)); exact BK107.out⟩, ⟨by repeat (first | (with_reducible first | exact HB.out | apply below_alloc | apply pw_below_drewN | apply below_drew1 | refine below_set ?_ GE107.out) | exact HB.out)⟩⟩
      · replace c7 := Bool.eq_false_iff.mpr c7
        subst c7
        have H1 : (spec_PacketOK.j0 k true a0_0 a0_1 a0_2 a0_3 a0_4 a0_5 a0_6 a0_7 a0_8 l0_9) = some r := by rw [if_neg (show ¬ (false = true) by decide)] at H; exact H
        clear H
        have H := H1
        clear H1
        have H' := Aside0.mk H
        clear H
        have hcz10_0 : w3.cell? ⟨gb107, 0, none⟩ = some (.int .i64 a0_0) := (blk_cell BK107.out 0).trans rfl
        have hcz10_1 : w3.cell? ⟨gb107, 1, none⟩ = some (.string a0_1) := (blk_cell BK107.out 1).trans rfl
        have hcz10_2 : w3.cell? ⟨gb107, 2, none⟩ = some (.string a0_2) := (blk_cell BK107.out 2).trans rfl
        have hcz10_3 : w3.cell? ⟨gb107, 3, none⟩ = some (.int .i64 a0_3) := (blk_cell BK107.out 3).trans rfl
        have hcz10_4 : w3.cell? ⟨gb107, 4, none⟩ = some (.int .i64 a0_4) := (blk_cell BK107.out 4).trans rfl
        have hcz10_5 : w3.cell? ⟨gb107, 5, none⟩ = some (.int .i64 a0_5) := (blk_cell BK107.out 5).trans rfl
        have hcz10_6 : w3.cell? ⟨gb107, 6, none⟩ = some (.int .i64 a0_6) := (blk_cell BK107.out 6).trans rfl
        have hcz10_7 : w3.cell? ⟨gb107, 7, none⟩ = some (.bool a0_7) := (blk_cell BK107.out 7).trans rfl
        have hcz10_8 : w3.cell? ⟨gb107, 8, none⟩ = some (.bool a0_8) := (blk_cell BK107.out 8).trans rfl
        have hcz10_9 : w3.cell? ⟨gb107, 9, none⟩ = some (.slice A0_9 l0_9.length c0_9) := (blk_cell BK107.out 9).trans rfl
        have hfz10_0 := blk_frozen BK107.out 0
        have hfz10_1 := blk_frozen BK107.out 1
        have hfz10_2 := blk_frozen BK107.out 2
        have hfz10_3 := blk_frozen BK107.out 3
        have hfz10_4 := blk_frozen BK107.out 4
        have hfz10_5 := blk_frozen BK107.out 5
        have hfz10_6 := blk_frozen BK107.out 6
        have hfz10_7 := blk_frozen BK107.out 7
        have hfz10_8 := blk_frozen BK107.out 8
        have hfz10_9 := blk_frozen BK107.out 9
        go_wp2_with (first | (go_at_call 100; (with_reducible refine (spec_l01In.calls a0_3 0 255 false _ A6.out).mono ?_); rintro e w' ⟨rfl, ⟨nd, rfl⟩⟩))
        go_meet
        case rel => exact ⟨_, (true), (by first | rfl | (simp; done) | (simp [*]; done)), H', ⟨by first | omega | exact Nat.le_refl _⟩, ⟨by (with_reducible repeat (first | refine blk_drewN ?_ _ | refine blk_drew ?_ | refine blk_alloc ?_ _)); exact BK107.out⟩, ⟨by repeat (first | (with_reducible first | exact HB.out | apply below_alloc | apply pw_below_drewN | apply below_drew1 | refine below_set ?_ GE107.out) | exact HB.out)⟩⟩
  case rest =>
    clear HC2
    try clear c1
    try clear p2
    try clear c4
    try clear c4b0
    try clear c4b1
    try clear c7
    try clear hcz10_0
    try clear hcz10_1
    try clear hcz10_2
    try clear hcz10_3
    try clear hcz10_4
    try clear hcz10_5
    try clear hcz10_6
    try clear hcz10_7
    try clear hcz10_8
    try clear hcz10_9
    try clear hcz5_0
    try clear hcz5_1
    try clear hcz5_2
    try clear hcz5_3
    try clear hcz5_4
    try clear hcz5_5
    try clear hcz5_6
    try clear hcz5_7
    try clear hcz5_8
    try clear hcz5_9
    try clear hcz9_0
    try clear hcz9_1
    try clear hcz9_2
    try clear hcz9_3
    try clear hcz9_4
    try clear hcz9_5
    try clear hcz9_6
    try clear hcz9_7
    try clear hcz9_8
    try clear hcz9_9
    try clear hfz10_0
    try clear hfz10_1
    try clear hfz10_2
    try clear hfz10_3
    try clear hfz10_4
    try clear hfz10_5
    try clear hfz10_6
    try clear hfz10_7
    try clear hfz10_8
    try clear hfz10_9
    try clear hfz5_0
    try clear hfz5_1
    try clear hfz5_2
    try clear hfz5_3
    try clear hfz5_4
    try clear hfz5_5
    try clear hfz5_6
    try clear hfz5_7
    try clear hfz5_8
    try clear hfz5_9
    try clear hfz9_0
    try clear hfz9_1
    try clear hfz9_2
    try clear hfz9_3
    try clear hfz9_4
    try clear hfz9_5
    try clear hfz9_6
    try clear hfz9_7
    try clear hfz9_8
    try clear hfz9_9
    obtain ⟨kq, x18_1, rfl, HA, HJ1, BK107, HB⟩ := hcut
    cases kq with
    | zero => exact absurd HA.out (by simp [spec_PacketOK.j0])
    | succ kj1 =>
      have H := HA.out
      clear HA
      simp only [spec_PacketOK.j0] at H
      by_cases c11 : x18_1 = true
      · subst c11
        have H1 : (some false) = some r := by rw [if_pos rfl] at H; exact H
        clear H
        have H := H1
        clear H1
        obtain rfl := Option.some.inj H
        go_wp2
        go_ret
        exact ⟨by first | rfl | (simp [errW_none, errW_some] <;> rfl) | (simp [*, errW_none, errW_some] <;> rfl), by repeat (first | (with_reducible first | exact HB.out | apply below_alloc | apply pw_below_drewN | apply below_drew1 | refine below_set ?_ GE107.out) | exact HB.out)⟩
      · replace c11 := Bool.eq_false_iff.mpr c11
        subst c11
        have H1 : (if a0_0 = 4 then (if (a0_1.size : Int) = 4 then (if (a0_2.size : Int) = 4 then ((spec_l01In.f a0_5 0 65535).bind fun t110 => (if t110 = true then ((spec_l01In.f a0_6 0 8191).bind fun t111 => (if t111 = true then (if a0_8 = true then (if a0_7 = true then (some false) else (if a0_6 > 0 then (some false) else (some (decide ((wrap64 ((wrap64 (8 * a0_6)) + (l0_9.length : Int))) ≤ 65515))))) else (if a0_7 = true then (if ((l0_9.length : Int) % 8) = 0 then (if (l0_9.length : Int) > 0 then (some (decide ((wrap64 ((wrap64 (8 * a0_6)) + (l0_9.length : Int))) ≤ 65515))) else (some false)) else (some false)) else (some (decide ((wrap64 ((wrap64 (8 * a0_6)) + (l0_9.length : Int))) ≤ 65515))))) else (some false))) else (some false))) else (some false)) else (some false)) else (if a0_0 = 6 then (if (a0_1.size : Int) = 16 then (if (a0_2.size : Int) = 16 then (if a0_5 = 0 then (if a0_6 = 0 then (if a0_7 = true then (some false) else (some (!a0_8))) else (some false)) else (some false)) else (some false)) else (some false)) else (some false))) = some r := by rw [if_neg (show ¬ (false = true) by decide)] at H; exact H
        clear H
        have H := H1
        clear H1
        by_cases c12 : a0_0 = 4
        · rw [if_pos c12] at H
          have c12b0 : (a0_0 == 4) = true := beq_iff_eq.mpr c12
          have c12b1 : (a0_0 != 4) = false := bne_eq_false_iff_eq.mpr c12
          clear c12
          by_cases c13 : (a0_1.size : Int) = 4
          · rw [if_pos c13] at H
            have c13b0 : ((a0_1.size : Int) == 4) = true := beq_iff_eq.mpr c13
            have c13b1 : ((a0_1.size : Int) != 4) = false := bne_eq_false_iff_eq.mpr c13
            clear c13
            by_cases c14 : (a0_2.size : Int) = 4
            · rw [if_pos c14] at H
              have c14b0 : ((a0_2.size : Int) == 4) = true := beq_iff_eq.mpr c14
              have c14b1 : ((a0_2.size : Int) != 4) = false := bne_eq_false_iff_eq.mpr c14
              clear c14
              replace H := Option.bind_eq_some_iff.mp H
              obtain ⟨t110, A150, H⟩ := H
              replace H : (if t110 = true then ((spec_l01In.f a0_6 0 8191).bind fun t111 => (if t111 = true then (if a0_8 = true then (if a0_7 = true then (some false) else (if a0_6 > 0 then (some false) else (some (decide ((wrap64 ((wrap64 (8 * a0_6)) + (l0_9.length : Int))) ≤ 65515))))) else (if a0_7 = true then (if ((l0_9.length : Int) % 8) = 0 then (if (l0_9.length : Int) > 0 then (some (decide ((wrap64 ((wrap64 (8 * a0_6)) + (l0_9.length : Int))) ≤ 65515))) else (some false)) else (some false)) else (some (decide ((wrap64 ((wrap64 (8 * a0_6)) + (l0_9.length : Int))) ≤ 65515))))) else (some false))) else (some false)) = some r := H
              have A15 := Aside0.mk A150
              clear A150
              by_cases c16 : t110 = true
              · subst c16
                have H1 : ((spec_l01In.f a0_6 0 8191).bind fun t111 => (if t111 = true then (if a0_8 = true then (if a0_7 = true then (some false) else (if a0_6 > 0 then (some false) else (some (decide ((wrap64 ((wrap64 (8 * a0_6)) + (l0_9.length : Int))) ≤ 65515))))) else (if a0_7 = true then (if ((l0_9.length : Int) % 8) = 0 then (if (l0_9.length : Int) > 0 then (some (decide ((wrap64 ((wrap64 (8 * a0_6)) + (l0_9.length : Int))) ≤ 65515))) else (some false)) else (some false)) else (some (decide ((wrap64 ((wrap64 (8 * a0_6)) + (l0_9.length : Int))) ≤ 65515))))) else (some false))) = some r := by rw [if_pos rfl] at H; exact H
                clear H
                have H := H1
                clear H1
                replace H := Option.bind_eq_some_iff.mp H
                obtain ⟨t111, A170, H⟩ := H
                replace H : (if t111 = true then (if a0_8 = true then (if a0_7 = true then (some false) else (if a0_6 > 0 then (some false) else (some (decide ((wrap64 ((wrap64 (8 * a0_6)) + (l0_9.length : Int))) ≤ 65515))))) else (if a0_7 = true then (if ((l0_9.length : Int) % 8) = 0 then (if (l0_9.length : Int) > 0 then (some (decide ((wrap64 ((wrap64 (8 * a0_6)) + (l0_9.length : Int))) ≤ 65515))) else (some false)) else (some false)) else (some (decide ((wrap64 ((wrap64 (8 * a0_6)) + (l0_9.length : Int))) ≤ 65515))))) else (some false)) = some r := H
                have A17 := Aside0.mk A170
                clear A170
                by_cases c18 : t111 = true
                · subst c18
                  have H1 : (if a0_8 = true then (if a0_7 = true then (some false) else (if a0_6 > 0 then (some false) else (some (decide ((wrap64 ((wrap64 (8 * a0_6)) + (l0_9.length : Int))) ≤ 65515))))) else (if a0_7 = true then (if ((l0_9.length : Int) % 8) = 0 then (if (l0_9.length : Int) > 0 then (some (decide ((wrap64 ((wrap64 (8 * a0_6)) + (l0_9.length : Int))) ≤ 65515))) else (some false)) else (some false)) else (some (decide ((wrap64 ((wrap64 (8 * a0_6)) + (l0_9.length : Int))) ≤ 65515))))) = some r := by rw [if_pos rfl] at H; exact H
                  clear H
                  have H := H1
                  clear H1
                  by_cases c19 : a0_8 = true
                  · subst c19
                    have H1 : (if a0_7 = true then (some false) else (if a0_6 > 0 then (some false) else (some (decide ((wrap64 ((wrap64 (8 * a0_6)) + (l0_9.length : Int))) ≤ 65515))))) = some r := by rw [if_pos rfl] at H; exact H
                    clear H
                    have H := H1
                    clear H1
                    by_cases c20 : a0_7 = true
                    · subst c20
                      have H1 : (some false) = some r := by rw [if_pos rfl] at H; exact H
                      clear H
                      have H := H1
                      clear H1
                      obtain rfl := Option.some.inj H
                      have hcz21_0 : wc.cell? ⟨gb107, 0, none⟩ = some (.int .i64 a0_0) := (blk_cell BK107.out 0).trans rfl
                      have hcz21_1 : wc.cell? ⟨gb107, 1, none⟩ = some (.string a0_1) := (blk_cell BK107.out 1).trans rfl
                      have hcz21_2 : wc.cell? ⟨gb107, 2, none⟩ = some (.string a0_2) := (blk_cell BK107.out 2).trans rfl
                      have hcz21_3 : wc.cell? ⟨gb107, 3, none⟩ = some (.int .i64 a0_3) := (blk_cell BK107.out 3).trans rfl
                      have hcz21_4 : wc.cell? ⟨gb107, 4, none⟩ = some (.int .i64 a0_4) := (blk_cell BK107.out 4).trans rfl
                      have hcz21_5 : wc.cell? ⟨gb107, 5, none⟩ = some (.int .i64 a0_5) := (blk_cell BK107.out 5).trans rfl
                      have hcz21_6 : wc.cell? ⟨gb107, 6, none⟩ = some (.int .i64 a0_6) := (blk_cell BK107.out 6).trans rfl
                      have hcz21_7 : wc.cell? ⟨gb107, 7, none⟩ = some (.bool true) := (blk_cell BK107.out 7).trans rfl
                      have hcz21_8 : wc.cell? ⟨gb107, 8, none⟩ = some (.bool true) := (blk_cell BK107.out 8).trans rfl
                      have hcz21_9 : wc.cell? ⟨gb107, 9, none⟩ = some (.slice A0_9 l0_9.length c0_9) := (blk_cell BK107.out 9).trans rfl
                      have hfz21_0 := blk_frozen BK107.out 0
                      have hfz21_1 := blk_frozen BK107.out 1
                      have hfz21_2 := blk_frozen BK107.out 2
                      have hfz21_3 := blk_frozen BK107.out 3
                      have hfz21_4 := blk_frozen BK107.out 4
                      have hfz21_5 := blk_frozen BK107.out 5
                      have hfz21_6 := blk_frozen BK107.out 6
                      have hfz21_7 := blk_frozen BK107.out 7
                      have hfz21_8 := blk_frozen BK107.out 8
                      have hfz21_9 := blk_frozen BK107.out 9
                      go_wp2_with (first | (go_at_call 100; (with_reducible refine (spec_l01In.calls a0_5 0 65535 true _ A15.out).mono ?_); rintro e w' ⟨rfl, ⟨nd, rfl⟩⟩) | (go_at_call 100; (with_reducible refine (spec_l01In.calls a0_6 0 8191 true _ A17.out).mono ?_); rintro e w' ⟨rfl, ⟨nd, rfl⟩⟩))
                      go_ret
                      exact ⟨by first | rfl | (simp [errW_none, errW_some] <;> rfl) | (simp [*, errW_none, errW_some] <;> rfl), by repeat (first | (with_reducible first | exact HB.out | apply below_alloc | apply pw_below_drewN | apply below_drew1 | refine below_set ?_ GE107.out) | exact HB.out)⟩
                    · replace c20 := Bool.eq_false_iff.mpr c20
                      subst c20
                      have H1 : (if a0_6 > 0 then (some false) else (some (decide ((wrap64 ((wrap64 (8 * a0_6)) + (l0_9.length : Int))) ≤ 65515)))) = some r := by rw [if_neg (show ¬ (false = true) by decide)] at H; exact H
                      clear H
                      have H := H1
                      clear H1
                      by_cases c22 : a0_6 > 0
                      · rw [if_pos c22] at H
                        have c22b0 : decide (0 < a0_6) = true := decide_eq_true c22
                        clear c22
                        obtain rfl := Option.some.inj H
                        have hcz23_0 : wc.cell? ⟨gb107, 0, none⟩ = some (.int .i64 a0_0) := (blk_cell BK107.out 0).trans rfl
                        have hcz23_1 : wc.cell? ⟨gb107, 1, none⟩ = some (.string a0_1) := (blk_cell BK107.out 1).trans rfl
                        have hcz23_2 : wc.cell? ⟨gb107, 2, none⟩ = some (.string a0_2) := (blk_cell BK107.out 2).trans rfl
                        have hcz23_3 : wc.cell? ⟨gb107, 3, none⟩ = some (.int .i64 a0_3) := (blk_cell BK107.out 3).trans rfl
                        have hcz23_4 : wc.cell? ⟨gb107, 4, none⟩ = some (.int .i64 a0_4) := (blk_cell BK107.out 4).trans rfl
                        have hcz23_5 : wc.cell? ⟨gb107, 5, none⟩ = some (.int .i64 a0_5) := (blk_cell BK107.out 5).trans rfl
                        have hcz23_6 : wc.cell? ⟨gb107, 6, none⟩ = some (.int .i64 a0_6) := (blk_cell BK107.out 6).trans rfl
                        have hcz23_7 : wc.cell? ⟨gb107, 7, none⟩ = some (.bool false) := (blk_cell BK107.out 7).trans rfl
                        have hcz23_8 : wc.cell? ⟨gb107, 8, none⟩ = some (.bool true) := (blk_cell BK107.out 8).trans rfl
                        have hcz23_9 : wc.cell? ⟨gb107, 9, none⟩ = some (.slice A0_9 l0_9.length c0_9) := (blk_cell BK107.out 9).trans rfl
                        have hfz23_0 := blk_frozen BK107.out 0
                        have hfz23_1 := blk_frozen BK107.out 1
                        have hfz23_2 := blk_frozen BK107.out 2
                        have hfz23_3 := blk_frozen BK107.out 3
                        have hfz23_4 := blk_frozen BK107.out 4
                        have hfz23_5 := blk_frozen BK107.out 5
                        have hfz23_6 := blk_frozen BK107.out 6
                        have hfz23_7 := blk_frozen BK107.out 7
                        have hfz23_8 := blk_frozen BK107.out 8
                        have hfz23_9 := blk_frozen BK107.out 9
                        go_wp2_with (first | (go_at_call 100; (with_reducible refine (spec_l01In.calls a0_5 0 65535 true _ A15.out).mono ?_); rintro e w' ⟨rfl, ⟨nd, rfl⟩⟩) | (go_at_call 100; (with_reducible refine (spec_l01In.calls a0_6 0 8191 true _ A17.out).mono ?_); rintro e w' ⟨rfl, ⟨nd, rfl⟩⟩))
                        go_ret
                        exact ⟨by first | rfl | (simp [errW_none, errW_some] <;> rfl) | (simp [*, errW_none, errW_some] <;> rfl), by repeat (first | (with_reducible first | exact HB.out | apply below_alloc | apply pw_below_drewN | apply below_drew1 | refine below_set ?_ GE107.out) | exact HB.out)⟩
                      · rw [if_neg c22] at H
                        have c22b0 : decide (0 < a0_6) = false := decide_eq_false c22
                        clear c22
                        obtain rfl := Option.some.inj H
                        have hcz24_0 : wc.cell? ⟨gb107, 0, none⟩ = some (.int .i64 a0_0) := (blk_cell BK107.out 0).trans rfl
                        have hcz24_1 : wc.cell? ⟨gb107, 1, none⟩ = some (.string a0_1) := (blk_cell BK107.out 1).trans rfl
                        have hcz24_2 : wc.cell? ⟨gb107, 2, none⟩ = some (.string a0_2) := (blk_cell BK107.out 2).trans rfl
                        have hcz24_3 : wc.cell? ⟨gb107, 3, none⟩ = some (.int .i64 a0_3) := (blk_cell BK107.out 3).trans rfl
                        have hcz24_4 : wc.cell? ⟨gb107, 4, none⟩ = some (.int .i64 a0_4) := (blk_cell BK107.out 4).trans rfl
                        have hcz24_5 : wc.cell? ⟨gb107, 5, none⟩ = some (.int .i64 a0_5) := (blk_cell BK107.out 5).trans rfl
                        have hcz24_6 : wc.cell? ⟨gb107, 6, none⟩ = some (.int .i64 a0_6) := (blk_cell BK107.out 6).trans rfl
                        have hcz24_7 : wc.cell? ⟨gb107, 7, none⟩ = some (.bool false) := (blk_cell BK107.out 7).trans rfl
                        have hcz24_8 : wc.cell? ⟨gb107, 8, none⟩ = some (.bool true) := (blk_cell BK107.out 8).trans rfl
                        have hcz24_9 : wc.cell? ⟨gb107, 9, none⟩ = some (.slice A0_9 l0_9.length c0_9) := (blk_cell BK107.out 9).trans rfl
                        have hfz24_0 := blk_frozen BK107.out 0
                        have hfz24_1 := blk_frozen BK107.out 1
                        have hfz24_2 := blk_frozen BK107.out 2
                        have hfz24_3 := blk_frozen BK107.out 3
                        have hfz24_4 := blk_frozen BK107.out 4
                        have hfz24_5 := blk_frozen BK107.out 5
                        have hfz24_6 := blk_frozen BK107.out 6
                        have hfz24_7 := blk_frozen BK107.out 7
                        have hfz24_8 := blk_frozen BK107.out 8
                        have hfz24_9 := blk_frozen BK107.out 9
                        go_wp2_with (first | (go_at_call 100; (with_reducible refine (spec_l01In.calls a0_5 0 65535 true _ A15.out).mono ?_); rintro e w' ⟨rfl, ⟨nd, rfl⟩⟩) | (go_at_call 100; (with_reducible refine (spec_l01In.calls a0_6 0 8191 true _ A17.out).mono ?_); rintro e w' ⟨rfl, ⟨nd, rfl⟩⟩))
                        go_ret
                        exact ⟨by first | rfl | (simp [errW_none, errW_some] <;> rfl) | (simp [*, errW_none, errW_some] <;> rfl), by repeat (first | (with_reducible first | exact HB.out | apply below_alloc | apply pw_below_drewN | apply below_drew1 | refine below_set ?_ GE107.out) | exact HB.out)⟩
                  · replace c19 := Bool.eq_false_iff.mpr c19
                    subst c19
                    have H1 : (if a0_7 = true then (if ((l0_9.length : Int) % 8) = 0 then (if (l0_9.length : Int) > 0 then (some (decide ((wrap64 ((wrap64 (8 * a0_6)) + (l0_9.length : Int))) ≤ 65515))) else (some false)) else (some false)) else (some (decide ((wrap64 ((wrap64 (8 * a0_6)) + (l0_9.length : Int))) ≤ 65515)))) = some r := by rw [if_neg (show ¬ (false = true) by decide)] at H; exact H
                    clear H
                    have H := H1
                    clear H1
                    by_cases c25 : a0_7 = true
                    · subst c25
                      have H1 : (if ((l0_9.length : Int) % 8) = 0 then (if (l0_9.length : Int) > 0 then (some (decide ((wrap64 ((wrap64 (8 * a0_6)) + (l0_9.length : Int))) ≤ 65515))) else (some false)) else (some false)) = some r := by rw [if_pos rfl] at H; exact H
                      clear H
                      have H := H1
                      clear H1
                      by_cases c26 : ((l0_9.length : Int) % 8) = 0
                      · rw [if_pos c26] at H
                        have c26b0 : (((l0_9.length : Int) % 8) == 0) = true := beq_iff_eq.mpr c26
                        have c26b1 : (((l0_9.length : Int) % 8) != 0) = false := bne_eq_false_iff_eq.mpr c26
                        clear c26
                        by_cases c27 : (l0_9.length : Int) > 0
                        · rw [if_pos c27] at H
                          have c27b0 : decide (0 < (l0_9.length : Int)) = true := decide_eq_true c27
                          have c27b1 : decide (0 < l0_9.length) = true := decide_eq_true (by omega)
                          clear c27
                          obtain rfl := Option.some.inj H
                          have hcz28_0 : wc.cell? ⟨gb107, 0, none⟩ = some (.int .i64 a0_0) := (blk_cell BK107.out 0).trans rfl
                          have hcz28_1 : wc.cell? ⟨gb107, 1, none⟩ = some (.string a0_1) := (blk_cell BK107.out 1).trans rfl
                          have hcz28_2 : wc.cell? ⟨gb107, 2, none⟩ = some (.string a0_2) := (blk_cell BK107.out 2).trans rfl
                          have hcz28_3 : wc.cell? ⟨gb107, 3, none⟩ = some (.int .i64 a0_3) := (blk_cell BK107.out 3).trans rfl
                          have hcz28_4 : wc.cell? ⟨gb107, 4, none⟩ = some (.int .i64 a0_4) := (blk_cell BK107.out 4).trans rfl
                          have hcz28_5 : wc.cell? ⟨gb107, 5, none⟩ = some (.int .i64 a0_5) := (blk_cell BK107.out 5).trans rfl
                          have hcz28_6 : wc.cell? ⟨gb107, 6, none⟩ = some (.int .i64 a0_6) := (blk_cell BK107.out 6).trans rfl
                          have hcz28_7 : wc.cell? ⟨gb107, 7, none⟩ = some (.bool true) := (blk_cell BK107.out 7).trans rfl
                          have hcz28_8 : wc.cell? ⟨gb107, 8, none⟩ = some (.bool false) := (blk_cell BK107.out 8).trans rfl
                          have hcz28_9 : wc.cell? ⟨gb107, 9, none⟩ = some (.slice A0_9 l0_9.length c0_9) := (blk_cell BK107.out 9).trans rfl
                          have hfz28_0 := blk_frozen BK107.out 0
                          have hfz28_1 := blk_frozen BK107.out 1
                          have hfz28_2 := blk_frozen BK107.out 2
                          have hfz28_3 := blk_frozen BK107.out 3
                          have hfz28_4 := blk_frozen BK107.out 4
                          have hfz28_5 := blk_frozen BK107.out 5
                          have hfz28_6 := blk_frozen BK107.out 6
                          have hfz28_7 := blk_frozen BK107.out 7
                          have hfz28_8 := blk_frozen BK107.out 8
                          have hfz28_9 := blk_frozen BK107.out 9
                          go_wp2_with (first | (go_at_call 100; (with_reducible refine (spec_l01In.calls a0_5 0 65535 true _ A15.out).mono ?_); rintro e w' ⟨rfl, ⟨nd, rfl⟩⟩) | (go_at_call 100; (with_reducible refine (spec_l01In.calls a0_6 0 8191 true _ A17.out).mono ?_); rintro e w' ⟨rfl, ⟨nd, rfl⟩⟩))
                          go_ret
                          exact ⟨by first | rfl | (simp [errW_none, errW_some] <;> rfl) | (simp [*, errW_none, errW_some] <;> rfl), by repeat (first | (with_reducible first | exact HB.out | apply below_alloc | apply pw_below_drewN | apply below_drew1 | refine below_set ?_ GE107.out) | exact HB.out)⟩
                        · rw [if_neg c27] at H
                          have c27b0 : decide (0 < (l0_9.length : Int)) = false := decide_eq_false c27
                          have c27b1 : decide (0 < l0_9.length) = false := decide_eq_false (by omega)
                          clear c27
                          obtain rfl := Option.some.inj H
                          have hcz29_0 : wc.cell? ⟨gb107, 0, none⟩ = some (.int .i64 a0_0) := (blk_cell BK107.out 0).trans rfl
                          have hcz29_1 : wc.cell? ⟨gb107, 1, none⟩ = some (.string a0_1) := (blk_cell BK107.out 1).trans rfl
                          have hcz29_2 : wc.cell? ⟨gb107, 2, none⟩ = some (.string a0_2) := (blk_cell BK107.out 2).trans rfl
                          have hcz29_3 : wc.cell? ⟨gb107, 3, none⟩ = some (.int .i64 a0_3) := (blk_cell BK107.out 3).trans rfl
                          have hcz29_4 : wc.cell? ⟨gb107, 4, none⟩ = some (.int .i64 a0_4) := (blk_cell BK107.out 4).trans rfl
                          have hcz29_5 : wc.cell? ⟨gb107, 5, none⟩ = some (.int .i64 a0_5) := (blk_cell BK107.out 5).trans rfl
                          have hcz29_6 : wc.cell? ⟨gb107, 6, none⟩ = some (.int .i64 a0_6) := (blk_cell BK107.out 6).trans rfl
                          have hcz29_7 : wc.cell? ⟨gb107, 7, none⟩ = some (.bool true) := (blk_cell BK107.out 7).trans rfl
                          have hcz29_8 : wc.cell? ⟨gb107, 8, none⟩ = some (.bool false) := (blk_cell BK107.out 8).trans rfl
                          have hcz29_9 : wc.cell? ⟨gb107, 9, none⟩ = some (.slice A0_9 l0_9.length c0_9) := (blk_cell BK107.out 9).trans rfl
                          have hfz29_0 := blk_frozen BK107.out 0
                          have hfz29_1 := blk_frozen BK107.out 1
                          have hfz29_2 := blk_frozen BK107.out 2
                          have hfz29_3 := blk_frozen BK107.out 3
                          have hfz29_4 := blk_frozen BK107.out 4
                          have hfz29_5 := blk_frozen BK107.out 5
                          have hfz29_6 := blk_frozen BK107.out 6
                          have hfz29_7 := blk_frozen BK107.out 7
                          have hfz29_8 := blk_frozen BK107.out 8
                          have hfz29_9 := blk_frozen BK107.out 9
                          go_wp2_with (first | (go_at_call 100; (with_reducible refine (spec_l01In.calls a0_5 0 65535 true _ A15.out).mono ?_); rintro e w' ⟨rfl, ⟨nd, rfl⟩⟩) | (go_at_call 100; (with_reducible refine (spec_l01In.calls a0_6 0 8191 true _ A17.out).mono ?_); rintro e w' ⟨rfl, ⟨nd, rfl⟩⟩))
                          go_ret
                          exact ⟨by first | rfl | (simp [errW_none, errW_some] <;> rfl) | (simp [*, errW_none, errW_some] <;> rfl), by repeat (first | (with_reducible first | exact HB.out | apply below_alloc | apply pw_below_drewN | apply below_drew1 | refine below_set ?_ GE107.out) | exact HB.out)⟩
                      · rw [if_neg c26] at H
                        have c26b0 : (((l0_9.length : Int) % 8) == 0) = false := beq_eq_false_iff_ne.mpr c26
                        have c26b1 : (((l0_9.length : Int) % 8) != 0) = true := bne_iff_ne.mpr c26
                        obtain rfl := Option.some.inj H
                        have hcz30_0 : wc.cell? ⟨gb107, 0, none⟩ = some (.int .i64 a0_0) := (blk_cell BK107.out 0).trans rfl
                        have hcz30_1 : wc.cell? ⟨gb107, 1, none⟩ = some (.string a0_1) := (blk_cell BK107.out 1).trans rfl
                        have hcz30_2 : wc.cell? ⟨gb107, 2, none⟩ = some (.string a0_2) := (blk_cell BK107.out 2).trans rfl
                        have hcz30_3 : wc.cell? ⟨gb107, 3, none⟩ = some (.int .i64 a0_3) := (blk_cell BK107.out 3).trans rfl
                        have hcz30_4 : wc.cell? ⟨gb107, 4, none⟩ = some (.int .i64 a0_4) := (blk_cell BK107.out 4).trans rfl
                        have hcz30_5 : wc.cell? ⟨gb107, 5, none⟩ = some (.int .i64 a0_5) := (blk_cell BK107.out 5).trans rfl
                        have hcz30_6 : wc.cell? ⟨gb107, 6, none⟩ = some (.int .i64 a0_6) := (blk_cell BK107.out 6).trans rfl
                        have hcz30_7 : wc.cell? ⟨gb107, 7, none⟩ = some (.bool true) := (blk_cell BK107.out 7).trans rfl
                        have hcz30_8 : wc.cell? ⟨gb107, 8, none⟩ = some (.bool false) := (blk_cell BK107.out 8).trans rfl
                        have hcz30_9 : wc.cell? ⟨gb107, 9, none⟩ = some (.slice A0_9 l0_9.length c0_9) := (blk_cell BK107.out 9).trans rfl
                        have hfz30_0 := blk_frozen BK107.out 0
                        have hfz30_1 := blk_frozen BK107.out 1
                        have hfz30_2 := blk_frozen BK107.out 2
                        have hfz30_3 := blk_frozen BK107.out 3
                        have hfz30_4 := blk_frozen BK107.out 4
                        have hfz30_5 := blk_frozen BK107.out 5
                        have hfz30_6 := blk_frozen BK107.out 6
                        have hfz30_7 := blk_frozen BK107.out 7
                        have hfz30_8 := blk_frozen BK107.out 8
                        have hfz30_9 := blk_frozen BK107.out 9
                        go_wp2_with (first | (go_at_call 100; (with_reducible refine (spec_l01In.calls a0_5 0 65535 true _ A15.out).mono ?_); rintro e w' ⟨rfl, ⟨nd, rfl⟩⟩) | (go_at_call 100; (with_reducible refine (spec_l01In.calls a0_6 0 8191 true _ A17.out).mono ?_); rintro e w' ⟨rfl, ⟨nd, rfl⟩⟩))
                        go_ret
                        exact ⟨by first | rfl | (simp [errW_none, errW_some] <;> rfl) | (simp [*, errW_none, errW_some] <;> rfl), by repeat (first | (with_reducible first | exact HB.out | apply below_alloc | apply pw_below_drewN | apply below_drew1 | refine below_set ?_ GE107.out) | exact HB.out)⟩
                    · replace c25 := Bool.eq_false_iff.mpr c25
                      subst c25
                      have H1 : (some (decide ((wrap64 ((wrap64 (8 * a0_6)) + (l0_9.length : Int))) ≤ 65515))) = some r := by rw [if_neg (show ¬ (false = true) by decide)] at H; exact H
                      clear H
                      have H := H1
                      clear H1
                      obtain rfl := Option.some.inj H
                      have hcz31_0 : wc.cell? ⟨gb107, 0, none⟩ = some (.int .i64 a0_0) := (blk_cell BK107.out 0).trans rfl
                      have hcz31_1 : wc.cell? ⟨gb107, 1, none⟩ = some (.string a0_1) := (blk_cell BK107.out 1).trans rfl
                      have hcz31_2 : wc.cell? ⟨gb107, 2, none⟩ = some (.string a0_2) := (blk_cell BK107.out 2).trans rfl
                      have hcz31_3 : wc.cell? ⟨gb107, 3, none⟩ = some (.int .i64 a0_3) := (blk_cell BK107.out 3).trans rfl
                      have hcz31_4 : wc.cell? ⟨gb107, 4, none⟩ = some (.int .i64 a0_4) := (blk_cell BK107.out 4).trans rfl
                      have hcz31_5 : wc.cell? ⟨gb107, 5, none⟩ = some (.int .i64 a0_5) := (blk_cell BK107.out 5).trans rfl
                      have hcz31_6 : wc.cell? ⟨gb107, 6, none⟩ = some (.int .i64 a0_6) := (blk_cell BK107.out 6).trans rfl
                      have hcz31_7 : wc.cell? ⟨gb107, 7, none⟩ = some (.bool false) := (blk_cell BK107.out 7).trans rfl
                      have hcz31_8 : wc.cell? ⟨gb107, 8, none⟩ = some (.bool false) := (blk_cell BK107.out 8).trans rfl
                      have hcz31_9 : wc.cell? ⟨gb107, 9, none⟩ = some (.slice A0_9 l0_9.length c0_9) := (blk_cell BK107.out 9).trans rfl
                      have hfz31_0 := blk_frozen BK107.out 0
                      have hfz31_1 := blk_frozen BK107.out 1
                      have hfz31_2 := blk_frozen BK107.out 2
                      have hfz31_3 := blk_frozen BK107.out 3
                      have hfz31_4 := blk_frozen BK107.out 4
                      have hfz31_5 := blk_frozen BK107.out 5
                      have hfz31_6 := blk_frozen BK107.out 6
                      have hfz31_7 := blk_frozen BK107.out 7
                      have hfz31_8 := blk_frozen BK107.out 8
                      have hfz31_9 := blk_frozen BK107.out 9
                      go_wp2_with (first | (go_at_call 100; (with_reducible refine (spec_l01In.calls a0_5 0 65535 true _ A15.out).mono ?_); rintro e w' ⟨rfl, ⟨nd, rfl⟩⟩) | (go_at_call 100; (with_reducible refine (spec_l01In.calls a0_6 0 8191 true _ A17.out).mono ?_); rintro e w' ⟨rfl, ⟨nd, rfl⟩⟩))
                      go_ret
                      exact ⟨by first | rfl | (simp [errW_none, errW_some] <;> rfl) | (simp [*, errW_none, errW_some] <;> rfl), by repeat (first | (with_reducible first | exact HB.out | apply below_alloc | apply pw_below_drewN | apply below_drew1 | refine below_set ?_ GE107.out) | exact HB.out)⟩
                · replace c18 := Bool.eq_false_iff.mpr c18
                  subst c18
                  have H1 : (some false) = some r := by rw [if_neg (show ¬ (false = true) by decide)] at H; exact H
                  clear H
                  have H := H1
                  clear H1
                  obtain rfl := Option.some.inj H
                  have hcz32_0 : wc.cell? ⟨gb107, 0, none⟩ = some (.int .i64 a0_0) := (blk_cell BK107.out 0).trans rfl
                  have hcz32_1 : wc.cell? ⟨gb107, 1, none⟩ = some (.string a0_1) := (blk_cell BK107.out 1).trans rfl
                  have hcz32_2 : wc.cell? ⟨gb107, 2, none⟩ = some (.string a0_2) := (blk_cell BK107.out 2).trans rfl
                  have hcz32_3 : wc.cell? ⟨gb107, 3, none⟩ = some (.int .i64 a0_3) := (blk_cell BK107.out 3).trans rfl
                  have hcz32_4 : wc.cell? ⟨gb107, 4, none⟩ = some (.int .i64 a0_4) := (blk_cell BK107.out 4).trans rfl
                  have hcz32_5 : wc.cell? ⟨gb107, 5, none⟩ = some (.int .i64 a0_5) := (blk_cell BK107.out 5).trans rfl
                  have hcz32_6 : wc.cell? ⟨gb107, 6, none⟩ = some (.int .i64 a0_6) := (blk_cell BK107.out 6).trans rfl
                  have hcz32_7 : wc.cell? ⟨gb107, 7, none⟩ = some (.bool a0_7) := (blk_cell BK107.out 7).trans rfl
                  have hcz32_8 : wc.cell? ⟨gb107, 8, none⟩ = some (.bool a0_8) := (blk_cell BK107.out 8).trans rfl
                  have hcz32_9 : wc.cell? ⟨gb107, 9, none⟩ = some (.slice A0_9 l0_9.length c0_9) := (blk_cell BK107.out 9).trans rfl
                  have hfz32_0 := blk_frozen BK107.out 0
                  have hfz32_1 := blk_frozen BK107.out 1
                  have hfz32_2 := blk_frozen BK107.out 2
                  have hfz32_3 := blk_frozen BK107.out 3
                  have hfz32_4 := blk_frozen BK107.out 4
                  have hfz32_5 := blk_frozen BK107.out 5
                  have hfz32_6 := blk_frozen BK107.out 6
                  have hfz32_7 := blk_frozen BK107.out 7
                  have hfz32_8 := blk_frozen BK107.out 8
                  have hfz32_9 := blk_frozen BK107.out 9
                  go_wp2_with (first | (go_at_call 100; (with_reducible refine (spec_l01In.calls a0_5 0 65535 true _ A15.out).mono ?_); rintro e w' ⟨rfl, ⟨nd, rfl⟩⟩) | (go_at_call 100; (with_reducible refine (spec_l01In.calls a0_6 0 8191 false _ A17.out).mono ?_); rintro e w' ⟨rfl, ⟨nd, rfl⟩⟩))
                  go_ret
                  exact ⟨by first | rfl | (simp [errW_none, errW_some] <;> rfl) | (simp [*, errW_none, errW_some] <;> rfl), by repeat (first | (with_reducible first | exact HB.out | apply below_alloc | apply pw_below_drewN | apply below_drew1 | refine below_set ?_ GE107.out) | exact HB.out)⟩
              · replace c16 := Bool.eq_false_iff.mpr c16
                subst c16
                have H1 : (some false) = some r := by rw [if_neg (show ¬ (false = true) by decide)] at H; exact H
                clear H
                have H := H1
                clear H1
                obtain rfl := Option.some.inj H
                have hcz33_0 : wc.cell? ⟨gb107, 0, none⟩ = some (.int .i64 a0_0) := (blk_cell BK107.out 0).trans rfl
                have hcz33_1 : wc.cell? ⟨gb107, 1, none⟩ = some (.string a0_1) := (blk_cell BK107.out 1).trans rfl
                have hcz33_2 : wc.cell? ⟨gb107, 2, none⟩ = some (.string a0_2) := (blk_cell BK107.out 2).trans rfl
                have hcz33_3 : wc.cell? ⟨gb107, 3, none⟩ = some (.int .i64 a0_3) := (blk_cell BK107.out 3).trans rfl
                have hcz33_4 : wc.cell? ⟨gb107, 4, none⟩ = some (.int .i64 a0_4) := (blk_cell BK107.out 4).trans rfl
                have hcz33_5 : wc.cell? ⟨gb107, 5, none⟩ = some (.int .i64 a0_5) := (blk_cell BK107.out 5).trans rfl
                have hcz33_6 : wc.cell? ⟨gb107, 6, none⟩ = some (.int .i64 a0_6) := (blk_cell BK107.out 6).trans rfl
                have hcz33_7 : wc.cell? ⟨gb107, 7, none⟩ = some (.bool a0_7) := (blk_cell BK107.out 7).trans rfl
                have hcz33_8 : wc.cell? ⟨gb107, 8, none⟩ = some (.bool a0_8) := (blk_cell BK107.out 8).trans rfl
                have hcz33_9 : wc.cell? ⟨gb107, 9, none⟩ = some (.slice A0_9 l0_9.length c0_9) := (blk_cell BK107.out 9).trans rfl
                have hfz33_0 := blk_frozen BK107.out 0
                have hfz33_1 := blk_frozen BK107.out 1
                have hfz33_2 := blk_frozen BK107.out 2
                have hfz33_3 := blk_frozen BK107.out 3
                have hfz33_4 := blk_frozen BK107.out 4
                have hfz33_5 := blk_frozen BK107.out 5
                have hfz33_6 := blk_frozen BK107.out 6
                have hfz33_7 := blk_frozen BK107.out 7
                have hfz33_8 := blk_frozen BK107.out 8
                have hfz33_9 := blk_frozen BK107.out 9
                go_wp2_with (first | (go_at_call 100; (with_reducible refine (spec_l01In.calls a0_5 0 65535 false _ A15.out).mono ?_); rintro e w' ⟨rfl, ⟨nd, rfl⟩⟩))
                go_ret
                exact ⟨by first | rfl | (simp [errW_none, errW_some] <;> rfl) | (simp [*, errW_none, errW_some] <;> rfl), by repeat (first | (with_reducible first | exact HB.out | apply below_alloc | apply pw_below_drewN | apply below_drew1 | refine below_set ?_ GE107.out) | exact HB.out)⟩
            · rw [if_neg c14] at H
              have c14b0 : ((a0_2.size : Int) == 4) = false := beq_eq_false_iff_ne.mpr c14
              have c14b1 : ((a0_2.size : Int) != 4) = true := bne_iff_ne.mpr c14
              obtain rfl := Option.some.inj H
              have hcz34_0 : wc.cell? ⟨gb107, 0, none⟩ = some (.int .i64 a0_0) := (blk_cell BK107.out 0).trans rfl
              have hcz34_1 : wc.cell? ⟨gb107, 1, none⟩ = some (.string a0_1) := (blk_cell BK107.out 1).trans rfl
              have hcz34_2 : wc.cell? ⟨gb107, 2, none⟩ = some (.string a0_2) := (blk_cell BK107.out 2).trans rfl
              have hcz34_3 : wc.cell? ⟨gb107, 3, none⟩ = some (.int .i64 a0_3) := (blk_cell BK107.out 3).trans rfl
              have hcz34_4 : wc.cell? ⟨gb107, 4, none⟩ = some (.int .i64 a0_4) := (blk_cell BK107.out 4).trans rfl
              have hcz34_5 : wc.cell? ⟨gb107, 5, none⟩ = some (.int .i64 a0_5) := (blk_cell BK107.out 5).trans rfl
              have hcz34_6 : wc.cell? ⟨gb107, 6, none⟩ = some (.int .i64 a0_6) := (blk_cell BK107.out 6).trans rfl
              have hcz34_7 : wc.cell? ⟨gb107, 7, none⟩ = some (.bool a0_7) := (blk_cell BK107.out 7).trans rfl
              have hcz34_8 : wc.cell? ⟨gb107, 8, none⟩ = some (.bool a0_8) := (blk_cell BK107.out 8).trans rfl
              have hcz34_9 : wc.cell? ⟨gb107, 9, none⟩ = some (.slice A0_9 l0_9.length c0_9) := (blk_cell BK107.out 9).trans rfl
              have hfz34_0 := blk_frozen BK107.out 0
              have hfz34_1 := blk_frozen BK107.out 1
              have hfz34_2 := blk_frozen BK107.out 2
              have hfz34_3 := blk_frozen BK107.out 3
              have hfz34_4 := blk_frozen BK107.out 4
              have hfz34_5 := blk_frozen BK107.out 5
              have hfz34_6 := blk_frozen BK107.out 6
              have hfz34_7 := blk_frozen BK107.out 7
              have hfz34_8 := blk_frozen BK107.out 8
              have hfz34_9 := blk_frozen BK107.out 9
              go_wp2
              go_ret
              exact ⟨by first | rfl | (simp [errW_none, errW_some] <;> rfl) | (simp [*, errW_none, errW_some] <;> rfl), by repeat (first | (with_reducible first | exact HB.out | apply below_alloc | apply pw_below_drewN | apply below_drew1 | refine below_set ?_ GE107.out) | exact HB.out)⟩
          · rw [if_neg c13] at H
            have c13b0 : ((a0_1.size : Int) == 4) = false := beq_eq_false_iff_ne.mpr c13
            have c13b1 : ((a0_1.size : Int) != 4) = true := bne_iff_ne.mpr c13
            obtain rfl := Option.some.inj H
            have hcz35_0 : wc.cell? ⟨gb107, 0, none⟩ = some (.int .i64 a0_0) := (blk_cell BK107.out 0).trans rfl
            have hcz35_1 : wc.cell? ⟨gb107, 1, none⟩ = some (.string a0_1) := (blk_cell BK107.out 1).trans rfl
            have hcz35_2 : wc.cell? ⟨gb107, 2, none⟩ = some (.string a0_2) := (blk_cell BK107.out 2).trans rfl
            have hcz35_3 : wc.cell? ⟨gb107, 3, none⟩ = some (.int .i64 a0_3) := (blk_cell BK107.out 3).trans rfl
            have hcz35_4 : wc.cell? ⟨gb107, 4, none⟩ = some (.int .i64 a0_4) := (blk_cell BK107.out 4).trans rfl
            have hcz35_5 : wc.cell? ⟨gb107, 5, none⟩ = some (.int .i64 a0_5) := (blk_cell BK107.out 5).trans rfl
            have hcz35_6 : wc.cell? ⟨gb107, 6, none⟩ = some (.int .i64 a0_6) := (blk_cell BK107.out 6).trans rfl
            have hcz35_7 : wc.cell? ⟨gb107, 7, none⟩ = some (.bool a0_7) := (blk_cell BK107.out 7).trans rfl
            have hcz35_8 : wc.cell? ⟨gb107, 8, none⟩ = some (.bool a0_8) := (blk_cell BK107.out 8).trans rfl
            have hcz35_9 : wc.cell? ⟨gb107, 9, none⟩ = some (.slice A0_9 l0_9.length c0_9) := (blk_cell BK107.out 9).trans rfl
            have hfz35_0 := blk_frozen BK107.out 0
            have hfz35_1 := blk_frozen BK107.out 1
            have hfz35_2 := blk_frozen BK107.out 2
            have hfz35_3 := blk_frozen BK107.out 3
            have hfz35_4 := blk_frozen BK107.out 4
            have hfz35_5 := blk_frozen BK107.out 5
            have hfz35_6 := blk_frozen BK107.out 6
            have hfz35_7 := blk_frozen BK107.out 7
            have hfz35_8 := blk_frozen BK107.out 8
            have hfz35_9 := blk_frozen BK107.out 9
            go_wp2
            go_ret
            exact ⟨by first | rfl | (simp [errW_none, errW_some] <;> rfl) | (simp [*, errW_none, errW_some] <;> rfl), by repeat (first | (with_reducible first | exact HB.out | apply below_alloc | apply pw_below_drewN | apply below_drew1 | refine below_set ?_ GE107.out) | exact HB.out)⟩
        · rw [if_neg c12] at H
          have c12b0 : (a0_0 == 4) = false := beq_eq_false_iff_ne.mpr c12
          have c12b1 : (a0_0 != 4) = true := bne_iff_ne.mpr c12
          by_cases c36 : a0_0 = 6
          · rw [if_pos c36] at H
            have c36b0 : (a0_0 == 6) = true := beq_iff_eq.mpr c36
            have c36b1 : (a0_0 != 6) = false := bne_eq_false_iff_eq.mpr c36
            clear c36
            by_cases c37 : (a0_1.size : Int) = 16
            · rw [if_pos c37] at H
              have c37b0 : ((a0_1.size : Int) == 16) = true := beq_iff_eq.mpr c37
              have c37b1 : ((a0_1.size : Int) != 16) = false := bne_eq_false_iff_eq.mpr c37
              clear c37
              by_cases c38 : (a0_2.size : Int) = 16
              · rw [if_pos c38] at H
                have c38b0 : ((a0_2.size : Int) == 16) = true := beq_iff_eq.mpr c38
                have c38b1 : ((a0_2.size : Int) != 16) = false := bne_eq_false_iff_eq.mpr c38
                clear c38
                by_cases c39 : a0_5 = 0
                · rw [if_pos c39] at H
                  have c39b0 : (a0_5 == 0) = true := beq_iff_eq.mpr c39
                  have c39b1 : (a0_5 != 0) = false := bne_eq_false_iff_eq.mpr c39
                  clear c39
                  by_cases c40 : a0_6 = 0
                  · rw [if_pos c40] at H
                    have c40b0 : (a0_6 == 0) = true := beq_iff_eq.mpr c40
                    have c40b1 : (a0_6 != 0) = false := bne_eq_false_iff_eq.mpr c40
                    clear c40
                    by_cases c41 : a0_7 = true
                    · subst c41
                      have H1 : (some false) = some r := by rw [if_pos rfl] at H; exact H
                      clear H
                      have H := H1
                      clear H1
                      obtain rfl := Option.some.inj H
                      have hcz42_0 : wc.cell? ⟨gb107, 0, none⟩ = some (.int .i64 a0_0) := (blk_cell BK107.out 0).trans rfl
                      have hcz42_1 : wc.cell? ⟨gb107, 1, none⟩ = some (.string a0_1) := (blk_cell BK107.out 1).trans rfl
                      have hcz42_2 : wc.cell? ⟨gb107, 2, none⟩ = some (.string a0_2) := (blk_cell BK107.out 2).trans rfl
                      have hcz42_3 : wc.cell? ⟨gb107, 3, none⟩ = some (.int .i64 a0_3) := (blk_cell BK107.out 3).trans rfl
                      have hcz42_4 : wc.cell? ⟨gb107, 4, none⟩ = some (.int .i64 a0_4) := (blk_cell BK107.out 4).trans rfl
                      have hcz42_5 : wc.cell? ⟨gb107, 5, none⟩ = some (.int .i64 a0_5) := (blk_cell BK107.out 5).trans rfl
                      have hcz42_6 : wc.cell? ⟨gb107, 6, none⟩ = some (.int .i64 a0_6) := (blk_cell BK107.out 6).trans rfl
                      have hcz42_7 : wc.cell? ⟨gb107, 7, none⟩ = some (.bool true) := (blk_cell BK107.out 7).trans rfl
                      have hcz42_8 : wc.cell? ⟨gb107, 8, none⟩ = some (.bool a0_8) := (blk_cell BK107.out 8).trans rfl
                      have hcz42_9 : wc.cell? ⟨gb107, 9, none⟩ = some (.slice A0_9 l0_9.length c0_9) := (blk_cell BK107.out 9).trans rfl
                      have hfz42_0 := blk_frozen BK107.out 0
                      have hfz42_1 := blk_frozen BK107.out 1
                      have hfz42_2 := blk_frozen BK107.out 2
                      have hfz42_3 := blk_frozen BK107.out 3
                      have hfz42_4 := blk_frozen BK107.out 4
                      have hfz42_5 := blk_frozen BK107.out 5
                      have hfz42_6 := blk_frozen BK107.out 6
                      have hfz42_7 := blk_frozen BK107.out 7
                      have hfz42_8 := blk_frozen BK107.out 8
                      have hfz42_9 := blk_frozen BK107.out 9
                      go_wp2
                      go_ret
                      exact ⟨by first | rfl | (simp [errW_none, errW_some] <;> rfl) | (simp [*, errW_none, errW_some] <;> rfl), by repeat (first | (with_reducible first | exact HB.out | apply below_alloc | apply pw_below_drewN | apply below_drew1 | refine below_set ?_ GE107.out) | exact HB.out)⟩
                    · replace c41 := Bool.eq_false_iff.mpr c41
                      subst c41
                      have H1 : (some (!a0_8)) = some r := by rw [if_neg (show ¬ (false = true) by decide)] at H; exact H
                      clear H
                      have H := H1
                      clear H1
                      obtain rfl := Option.some.inj H
                      have hcz43_0 : wc.cell? ⟨gb107, 0, none⟩ = some (.int .i64 a0_0) := (blk_cell BK107.out 0).trans rfl
                      have hcz43_1 : wc.cell? ⟨gb107, 1, none⟩ = some (.string a0_1) := (blk_cell BK107.out 1).trans rfl
                      have hcz43_2 : wc.cell? ⟨gb107, 2, none⟩ = some (.string a0_2) := (blk_cell BK107.out 2).trans rfl
                      have hcz43_3 : wc.cell? ⟨gb107, 3, none⟩ = some (.int .i64 a0_3) := (blk_cell BK107.out 3).trans rfl
                      have hcz43_4 : wc.cell? ⟨gb107, 4, none⟩ = some (.int .i64 a0_4) := (blk_cell BK107.out 4).trans rfl
                      have hcz43_5 : wc.cell? ⟨gb107, 5, none⟩ = some (.int .i64 a0_5) := (blk_cell BK107.out 5).trans rfl
                      have hcz43_6 : wc.cell? ⟨gb107, 6, none⟩ = some (.int .i64 a0_6) := (blk_cell BK107.out 6).trans rfl
                      have hcz43_7 : wc.cell? ⟨gb107, 7, none⟩ = some (.bool false) := (blk_cell BK107.out 7).trans rfl
                      have hcz43_8 : wc.cell? ⟨gb107, 8, none⟩ = some (.bool a0_8) := (blk_cell BK107.out 8).trans rfl
                      have hcz43_9 : wc.cell? ⟨gb107, 9, none⟩ = some (.slice A0_9 l0_9.length c0_9) := (blk_cell BK107.out 9).trans rfl
                      have hfz43_0 := blk_frozen BK107.out 0
                      have hfz43_1 := blk_frozen BK107.out 1
                      have hfz43_2 := blk_frozen BK107.out 2
                      have hfz43_3 := blk_frozen BK107.out 3
                      have hfz43_4 := blk_frozen BK107.out 4
                      have hfz43_5 := blk_frozen BK107.out 5
                      have hfz43_6 := blk_frozen BK107.out 6
                      have hfz43_7 := blk_frozen BK107.out 7
                      have hfz43_8 := blk_frozen BK107.out 8
                      have hfz43_9 := blk_frozen BK107.out 9
                      go_wp2
                      go_ret
                      exact ⟨by first | rfl | (simp [errW_none, errW_some] <;> rfl) | (simp [*, errW_none, errW_some] <;> rfl), by repeat (first | (with_reducible first | exact HB.out | apply below_alloc | apply pw_below_drewN | apply below_drew1 | refine below_set ?_ GE107.out) | exact HB.out)⟩
                  · rw [if_neg c40] at H
                    have c40b0 : (a0_6 == 0) = false := beq_eq_false_iff_ne.mpr c40
                    have c40b1 : (a0_6 != 0) = true := bne_iff_ne.mpr c40
                    obtain rfl := Option.some.inj H
                    have hcz44_0 : wc.cell? ⟨gb107, 0, none⟩ = some (.int .i64 a0_0) := (blk_cell BK107.out 0).trans rfl
                    have hcz44_1 : wc.cell? ⟨gb107, 1, none⟩ = some (.string a0_1) := (blk_cell BK107.out 1).trans rfl
                    have hcz44_2 : wc.cell? ⟨gb107, 2, none⟩ = some (.string a0_2) := (blk_cell BK107.out 2).trans rfl
                    have hcz44_3 : wc.cell? ⟨gb107, 3, none⟩ = some (.int .i64 a0_3) := (blk_cell BK107.out 3).trans rfl
                    have hcz44_4 : wc.cell? ⟨gb107, 4, none⟩ = some (.int .i64 a0_4) := (blk_cell BK107.out 4).trans rfl
                    have hcz44_5 : wc.cell? ⟨gb107, 5, none⟩ = some (.int .i64 a0_5) := (blk_cell BK107.out 5).trans rfl
                    have hcz44_6 : wc.cell? ⟨gb107, 6, none⟩ = some (.int .i64 a0_6) := (blk_cell BK107.out 6).trans rfl
                    have hcz44_7 : wc.cell? ⟨gb107, 7, none⟩ = some (.bool a0_7) := (blk_cell BK107.out 7).trans rfl
                    have hcz44_8 : wc.cell? ⟨gb107, 8, none⟩ = some (.bool a0_8) := (blk_cell BK107.out 8).trans rfl
                    have hcz44_9 : wc.cell? ⟨gb107, 9, none⟩ = some (.slice A0_9 l0_9.length c0_9) := (blk_cell BK107.out 9).trans rfl
                    have hfz44_0 := blk_frozen BK107.out 0
                    have hfz44_1 := blk_frozen BK107.out 1
                    have hfz44_2 := blk_frozen BK107.out 2
                    have hfz44_3 := blk_frozen BK107.out 3
                    have hfz44_4 := blk_frozen BK107.out 4
                    have hfz44_5 := blk_frozen BK107.out 5
                    have hfz44_6 := blk_frozen BK107.out 6
                    have hfz44_7 := blk_frozen BK107.out 7
                    have hfz44_8 := blk_frozen BK107.out 8
                    have hfz44_9 := blk_frozen BK107.out 9
                    go_wp2
                    go_ret
                    exact ⟨by first | rfl | (simp [errW_none, errW_some] <;> rfl) | (simp [*, errW_none, errW_some] <;> rfl), by repeat (first | (with_reducible first | exact HB.out | apply below_alloc | apply pw_below_drewN | apply below_drew1 | refine below_set ?_ GE107.out) | exact HB.out)⟩
                · rw [if_neg c39] at H
                  have c39b0 : (a0_5 == 0) = false := beq_eq_false_iff_ne.mpr c39
                  have c39b1 : (a0_5 != 0) = true := bne_iff_ne.mpr c39
                  obtain rfl := Option.some.inj H
                  have hcz45_0 : wc.cell? ⟨gb107, 0, none⟩ = some (.int .i64 a0_0) := (blk_cell BK107.out 0).trans rfl
                  have hcz45_1 : wc.cell? ⟨gb107, 1, none⟩ = some (.string a0_1) := (blk_cell BK107.out 1).trans rfl
                  have hcz45_2 : wc.cell? ⟨gb107, 2, none⟩ = some (.string a0_2) := (blk_cell BK107.out 2).trans rfl
                  have hcz45_3 : wc.cell? ⟨gb107, 3, none⟩ = some (.int .i64 a0_3) := (blk_cell BK107.out 3).trans rfl
                  have hcz45_4 : wc.cell? ⟨gb107, 4, none⟩ = some (.int .i64 a0_4) := (blk_cell BK107.out 4).trans rfl
                  have hcz45_5 : wc.cell? ⟨gb107, 5, none⟩ = some (.int .i64 a0_5) := (blk_cell BK107.out 5).trans rfl
                  have hcz45_6 : wc.cell? ⟨gb107, 6, none⟩ = some (.int .i64 a0_6) := (blk_cell BK107.out 6).trans rfl
                  have hcz45_7 : wc.cell? ⟨gb107, 7, none⟩ = some (.bool a0_7) := (blk_cell BK107.out 7).trans rfl
                  have hcz45_8 : wc.cell? ⟨gb107, 8, none⟩ = some (.bool a0_8) := (blk_cell BK107.out 8).trans rfl
                  have hcz45_9 : wc.cell? ⟨gb107, 9, none⟩ = some (.slice A0_9 l0_9.length c0_9) := (blk_cell BK107.out 9).trans rfl
                  have hfz45_0 := blk_frozen BK107.out 0
                  have hfz45_1 := blk_frozen BK107.out 1
                  have hfz45_2 := blk_frozen BK107.out 2
                  have hfz45_3 := blk_frozen BK107.out 3
                  have hfz45_4 := blk_frozen BK107.out 4
                  have hfz45_5 := blk_frozen BK107.out 5
                  have hfz45_6 := blk_frozen BK107.out 6
                  have hfz45_7 := blk_frozen BK107.out 7
                  have hfz45_8 := blk_frozen BK107.out 8
                  have hfz45_9 := blk_frozen BK107.out 9
                  go_wp2
                  go_ret
                  exact ⟨by first | rfl | (simp [errW_none, errW_some] <;> rfl) | (simp [*, errW_none, errW_some] <;> rfl), by repeat (first | (with_reducible first | exact HB.out | apply below_alloc | apply pw_below_drewN | apply below_drew1 | refine below_set ?_ GE107.out) | exact HB.out)⟩
              · rw [if_neg c38] at H
                have c38b0 : ((a0_2.size : Int) == 16) = false := beq_eq_false_iff_ne.mpr c38
                have c38b1 : ((a0_2.size : Int) != 16) = true := bne_iff_ne.mpr c38
                obtain rfl := Option.some.inj H
                have hcz46_0 : wc.cell? ⟨gb107, 0, none⟩ = some (.int .i64 a0_0) := (blk_cell BK107.out 0).trans rfl
                have hcz46_1 : wc.cell? ⟨gb107, 1, none⟩ = some (.string a0_1) := (blk_cell BK107.out 1).trans rfl
                have hcz46_2 : wc.cell? ⟨gb107, 2, none⟩ = some (.string a0_2) := (blk_cell BK107.out 2).trans rfl
                have hcz46_3 : wc.cell? ⟨gb107, 3, none⟩ = some (.int .i64 a0_3) := (blk_cell BK107.out 3).trans rfl
                have hcz46_4 : wc.cell? ⟨gb107, 4, none⟩ = some (.int .i64 a0_4) := (blk_cell BK107.out 4).trans rfl
                have hcz46_5 : wc.cell? ⟨gb107, 5, none⟩ = some (.int .i64 a0_5) := (blk_cell BK107.out 5).trans rfl
                have hcz46_6 : wc.cell? ⟨gb107, 6, none⟩ = some (.int .i64 a0_6) := (blk_cell BK107.out 6).trans rfl
                have hcz46_7 : wc.cell? ⟨gb107, 7, none⟩ = some (.bool a0_7) := (blk_cell BK107.out 7).trans rfl
                have hcz46_8 : wc.cell? ⟨gb107, 8, none⟩ = some (.bool a0_8) := (blk_cell BK107.out 8).trans rfl
                have hcz46_9 : wc.cell? ⟨gb107, 9, none⟩ = some (.slice A0_9 l0_9.length c0_9) := (blk_cell BK107.out 9).trans rfl
                have hfz46_0 := blk_frozen BK107.out 0
                have hfz46_1 := blk_frozen BK107.out 1
                have hfz46_2 := blk_frozen BK107.out 2
                have hfz46_3 := blk_frozen BK107.out 3
                have hfz46_4 := blk_frozen BK107.out 4
                have hfz46_5 := blk_frozen BK107.out 5
                have hfz46_6 := blk_frozen BK107.out 6
                have hfz46_7 := blk_frozen BK107.out 7
                have hfz46_8 := blk_frozen BK107.out 8
                have hfz46_9 := blk_frozen BK107.out 9
                go_wp2
                go_ret
                exact ⟨by first | rfl | (simp [errW_none, errW_some] <;> rfl) | (simp [*, errW_none, errW_some] <;> rfl), by repeat (first | (with_reducible first | exact HB.out | apply below_alloc | apply pw_below_drewN | apply below_drew1 | refine below_set ?_ GE107.out) | exact HB.out)⟩
            · rw [if_neg c37] at H
              have c37b0 : ((a0_1.size : Int) == 16) = false := beq_eq_false_iff_ne.mpr c37
              have c37b1 : ((a0_1.size : Int) != 16) = true := bne_iff_ne.mpr c37
              obtain rfl := Option.some.inj H
              have hcz47_0 : wc.cell? ⟨gb107, 0, none⟩ = some (.int .i64 a0_0) := (blk_cell BK107.out 0).trans rfl
              have hcz47_1 : wc.cell? ⟨gb107, 1, none⟩ = some (.string a0_1) := (blk_cell BK107.out 1).trans rfl
              have hcz47_2 : wc.cell? ⟨gb107, 2, none⟩ = some (.string a0_2) := (blk_cell BK107.out 2).trans rfl
              have hcz47_3 : wc.cell? ⟨gb107, 3, none⟩ = some (.int .i64 a0_3) := (blk_cell BK107.out 3).trans rfl
              have hcz47_4 : wc.cell? ⟨gb107, 4, none⟩ = some (.int .i64 a0_4) := (blk_cell BK107.out 4).trans rfl
              have hcz47_5 : wc.cell? ⟨gb107, 5, none⟩ = some (.int .i64 a0_5) := (blk_cell BK107.out 5).trans rfl
              have hcz47_6 : wc.cell? ⟨gb107, 6, none⟩ = some (.int .i64 a0_6) := (blk_cell BK107.out 6).trans rfl
              have hcz47_7 : wc.cell? ⟨gb107, 7, none⟩ = some (.bool a0_7) := (blk_cell BK107.out 7).trans rfl
              have hcz47_8 : wc.cell? ⟨gb107, 8, none⟩ = some (.bool a0_8) := (blk_cell BK107.out 8).trans rfl
              have hcz47_9 : wc.cell? ⟨gb107, 9, none⟩ = some (.slice A0_9 l0_9.length c0_9) := (blk_cell BK107.out 9).trans rfl
              have hfz47_0 := blk_frozen BK107.out 0
              have hfz47_1 := blk_frozen BK107.out 1
              have hfz47_2 := blk_frozen BK107.out 2
              have hfz47_3 := blk_frozen BK107.out 3
              have hfz47_4 := blk_frozen BK107.out 4
              have hfz47_5 := blk_frozen BK107.out 5
              have hfz47_6 := blk_frozen BK107.out 6
              have hfz47_7 := blk_frozen BK107.out 7
              have hfz47_8 := blk_frozen BK107.out 8
              have hfz47_9 := blk_frozen BK107.out 9
              go_wp2
              go_ret
              exact ⟨by first | rfl | (simp [errW_none, errW_some] <;> rfl) | (simp [*, errW_none, errW_some] <;> rfl), by repeat (first | (with_reducible first | exact HB.out | apply below_alloc | apply pw_below_drewN | apply below_drew1 | refine below_set ?_ GE107.out) | exact HB.out)⟩
          · rw [if_neg c36] at H
            have c36b0 : (a0_0 == 6) = false := beq_eq_false_iff_ne.mpr c36
            have c36b1 : (a0_0 != 6) = true := bne_iff_ne.mpr c36
            obtain rfl := Option.some.inj H
            have hcz48_0 : wc.cell? ⟨gb107, 0, none⟩ = some (.int .i64 a0_0) := (blk_cell BK107.out 0).trans rfl
            have hcz48_1 : wc.cell? ⟨gb107, 1, none⟩ = some (.string a0_1) := (blk_cell BK107.out 1).trans rfl
            have hcz48_2 : wc.cell? ⟨gb107, 2, none⟩ = some (.string a0_2) := (blk_cell BK107.out 2).trans rfl
            have hcz48_3 : wc.cell? ⟨gb107, 3, none⟩ = some (.int .i64 a0_3) := (blk_cell BK107.out 3).trans rfl
            have hcz48_4 : wc.cell? ⟨gb107, 4, none⟩ = some (.int .i64 a0_4) := (blk_cell BK107.out 4).trans rfl
            have hcz48_5 : wc.cell? ⟨gb107, 5, none⟩ = some (.int .i64 a0_5) := (blk_cell BK107.out 5).trans rfl
            have hcz48_6 : wc.cell? ⟨gb107, 6, none⟩ = some (.int .i64 a0_6) := (blk_cell BK107.out 6).trans rfl
            have hcz48_7 : wc.cell? ⟨gb107, 7, none⟩ = some (.bool a0_7) := (blk_cell BK107.out 7).trans rfl
            have hcz48_8 : wc.cell? ⟨gb107, 8, none⟩ = some (.bool a0_8) := (blk_cell BK107.out 8).trans rfl
            have hcz48_9 : wc.cell? ⟨gb107, 9, none⟩ = some (.slice A0_9 l0_9.length c0_9) := (blk_cell BK107.out 9).trans rfl
            have hfz48_0 := blk_frozen BK107.out 0
            have hfz48_1 := blk_frozen BK107.out 1
            have hfz48_2 := blk_frozen BK107.out 2
            have hfz48_3 := blk_frozen BK107.out 3
            have hfz48_4 := blk_frozen BK107.out 4
            have hfz48_5 := blk_frozen BK107.out 5
            have hfz48_6 := blk_frozen BK107.out 6
            have hfz48_7 := blk_frozen BK107.out 7
            have hfz48_8 := blk_frozen BK107.out 8
            have hfz48_9 := blk_frozen BK107.out 9
            go_wp2
            go_ret
            exact ⟨by first | rfl | (simp [errW_none, errW_some] <;> rfl) | (simp [*, errW_none, errW_some] <;> rfl), by repeat (first | (with_reducible first | exact HB.out | apply below_alloc | apply pw_below_drewN | apply below_drew1 | refine below_set ?_ GE107.out) | exact HB.out)⟩

end Go.Proofs.Ytjfpkfophfelmaa.QFnExactPacketBytes
