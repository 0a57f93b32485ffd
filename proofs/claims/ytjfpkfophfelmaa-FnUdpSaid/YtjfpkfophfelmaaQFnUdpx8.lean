-- written by a program of this session
import Derived.Test.YtjfpkfophfelmaaQFnUdpx0
import Derived.Test.YtjfpkfophfelmaaQFnUdpx1
import Derived.Test.YtjfpkfophfelmaaQFnUdpx3
import Derived.Test.YtjfpkfophfelmaaQFnUdpx5
import Derived.Test.YtjfpkfophfelmaaQFnUdpx6
import Derived.Test.YtjfpkfophfelmaaQFnUdpx7
namespace Go.Proofs.Ytjfpkfophfelmaa.QFnUdp
open Go.RowKit Go.Proofs.YtjfpkfophfelmaaV.PrintWords Go.Proofs.YtjfpkfophfelmaaV.PrintLast Go.Proofs.YtjfpkfophfelmaaV.PrintMore
attribute [local go_sem] max2_int min2_int max_two min_two max_three min_three max_four min_four   -- for this text's walks alone
set_option linter.unusedVariables false
set_option linter.unusedSimpArgs false

/-! ### laws_FnUdp: function 6 -/
mutual
def laws_FnUdp.j0 : Nat → List Int → List Int → Bool → Option (Bool)
  | 0, _, _, _ => none
  | k + 1, x0, x1, x27 => if x27 = true then (some true) else ((spec_EndsOf.f k x1).bind fun bt453 => ((spec_UdpOf.f k x0).bind fun bt455 => ((impl_UdpBytes.f k bt453.1 bt453.2 bt455.1 bt455.2.1 bt455.2.2).bind fun bt461 => ((spec_UdpBytes.f k bt453.1 bt453.2 bt455.1 bt455.2.1 bt455.2.2).bind fun bt465 => ((impl_ReadUdp.f k bt453.1 bt453.2 bt461.1).bind fun bt469 => (if bt461.2 = 0 then (if bt469.2.2.2 = 0 then (if (strOfNums bt461.1).toList = (strOfNums bt465.1).toList then (if bt469.1 = bt455.1 then (if bt469.2.1 = bt455.2.1 then (laws_FnUdp.j1 k x1 bt453.1 bt453.2 bt461.1 ((strOfNums bt469.2.2.1).toList != (strOfNums bt455.2.2).toList)) else (laws_FnUdp.j1 k x1 bt453.1 bt453.2 bt461.1 true)) else (laws_FnUdp.j1 k x1 bt453.1 bt453.2 bt461.1 true)) else (laws_FnUdp.j1 k x1 bt453.1 bt453.2 bt461.1 true)) else (laws_FnUdp.j1 k x1 bt453.1 bt453.2 bt461.1 true)) else (laws_FnUdp.j1 k x1 bt453.1 bt453.2 bt461.1 true)))))))
def laws_FnUdp.j1 : Nat → List Int → ByteArray → ByteArray → List Int → Bool → Option (Bool)
  | 0, _, _, _, _, _ => none
  | k + 1, x1, x5, x6, x8, x91 => if x91 = true then (some false) else ((impl_PseudoSum.f k x5 x6 17 x8).bind fun bt476 => ((spec_PseudoSum.f k x5 x6 17 x8).bind fun bt478 => (if bt476.2 = 0 then (if bt476.1 = 0 then (laws_FnUdp.j2 k x1 x5 x6 x8 (bt478.1 != 0)) else (laws_FnUdp.j2 k x1 x5 x6 x8 true)) else (laws_FnUdp.j2 k x1 x5 x6 x8 true))))
def laws_FnUdp.j2 : Nat → List Int → ByteArray → ByteArray → List Int → Bool → Option (Bool)
  | 0, _, _, _, _, _ => none
  | k + 1, x1, x5, x6, x8, x115 => if x115 = true then (some false) else ((laws_at.f x1 0 (x8.length : Int)).bind fun t480 => (if 0 ≤ t480 then (if t480 < (x8.length : Int) then ((laws_at.f x1 1 255).bind fun t482 => ((some (x8.set (t480 : Int).toNat (Go.bits .xor .u8 (rd x8 t480) ((wrap64 (1 + t482)) % 256)) : List Int)).bind fun y483 => ((impl_ReadUdp.f k x5 x6 y483).bind fun bt484 => (if bt484.2.2.2 = 0 then (if 6 < (x8.length : Int) then (if (rd y483 6) = 0 then (if 7 < (x8.length : Int) then (some ((rd y483 7) == 0)) else (none)) else (some false)) else (none)) else (some true))))) else (none)) else (none)))
end
def laws_FnUdp.f (k : Nat) (l0 : List Int) (l1 : List Int) : Option (Bool) := if (l0.length : Int) > 1048576 then (laws_FnUdp.j0 k l0 l1 true) else (laws_FnUdp.j0 k l0 l1 (decide ((l1.length : Int) > 1048576)))
theorem laws_FnUdp.mono_l : ∀ k, (∀ y0 y1 y2, LeO (laws_FnUdp.j0 k y0 y1 y2) (laws_FnUdp.j0 (k + 1) y0 y1 y2)) ∧ (∀ y0 y1 y2 y3 y4, LeO (laws_FnUdp.j1 k y0 y1 y2 y3 y4) (laws_FnUdp.j1 (k + 1) y0 y1 y2 y3 y4)) ∧ (∀ y0 y1 y2 y3 y4, LeO (laws_FnUdp.j2 k y0 y1 y2 y3 y4) (laws_FnUdp.j2 (k + 1) y0 y1 y2 y3 y4))
  | 0 => ⟨fun _ _ _ r h => by simp [laws_FnUdp.j0] at h, fun _ _ _ _ _ r h => by simp [laws_FnUdp.j1] at h, fun _ _ _ _ _ r h => by simp [laws_FnUdp.j2] at h⟩
  | k + 1 => by
    obtain ⟨ih0, ih1, ih2⟩ := laws_FnUdp.mono_l k
    refine ⟨?_, ?_, ?_⟩
    · intro y0 y1 y2
      unfold laws_FnUdp.j0
      repeat' first
      | (with_reducible exact ih0 _ _ _)
      | (with_reducible exact ih1 _ _ _ _ _)
      | (with_reducible exact ih2 _ _ _ _ _)
      | (with_reducible exact impl_PseudoSum.mono _ _ _ _ _)
      | (with_reducible exact impl_ReadUdp.mono _ _ _ _)
      | (with_reducible exact impl_UdpBytes.mono _ _ _ _ _ _)
      | (with_reducible exact spec_EndsOf.mono _ _)
      | (with_reducible exact spec_PseudoSum.mono _ _ _ _ _)
      | (with_reducible exact spec_UdpBytes.mono _ _ _ _ _ _)
      | (with_reducible exact spec_UdpOf.mono _ _)
      | (with_reducible exact LeO.refl _)
      | (with_reducible exact LeO.none _)
      | (with_reducible refine LeO.ite ?_ ?_)
      | (with_reducible refine LeO.bind ?_ (fun _ => ?_))
      | exact ih0 _ _ _
      | exact ih1 _ _ _ _ _
      | exact ih2 _ _ _ _ _
      | exact impl_PseudoSum.mono _ _ _ _ _
      | exact impl_ReadUdp.mono _ _ _ _
      | exact impl_UdpBytes.mono _ _ _ _ _ _
      | exact spec_EndsOf.mono _ _
      | exact spec_PseudoSum.mono _ _ _ _ _
      | exact spec_UdpBytes.mono _ _ _ _ _ _
      | exact spec_UdpOf.mono _ _
      | exact LeO.none _
      | refine LeO.ite ?_ ?_
      | refine LeO.bind ?_ (fun _ => ?_)
    · intro y0 y1 y2 y3 y4
      unfold laws_FnUdp.j1
      repeat' first
      | (with_reducible exact ih0 _ _ _)
      | (with_reducible exact ih1 _ _ _ _ _)
      | (with_reducible exact ih2 _ _ _ _ _)
      | (with_reducible exact impl_PseudoSum.mono _ _ _ _ _)
      | (with_reducible exact impl_ReadUdp.mono _ _ _ _)
      | (with_reducible exact impl_UdpBytes.mono _ _ _ _ _ _)
      | (with_reducible exact spec_EndsOf.mono _ _)
      | (with_reducible exact spec_PseudoSum.mono _ _ _ _ _)
      | (with_reducible exact spec_UdpBytes.mono _ _ _ _ _ _)
      | (with_reducible exact spec_UdpOf.mono _ _)
      | (with_reducible exact LeO.refl _)
      | (with_reducible exact LeO.none _)
      | (with_reducible refine LeO.ite ?_ ?_)
      | (with_reducible refine LeO.bind ?_ (fun _ => ?_))
      | exact ih0 _ _ _
      | exact ih1 _ _ _ _ _
      | exact ih2 _ _ _ _ _
      | exact impl_PseudoSum.mono _ _ _ _ _
      | exact impl_ReadUdp.mono _ _ _ _
      | exact impl_UdpBytes.mono _ _ _ _ _ _
      | exact spec_EndsOf.mono _ _
      | exact spec_PseudoSum.mono _ _ _ _ _
      | exact spec_UdpBytes.mono _ _ _ _ _ _
      | exact spec_UdpOf.mono _ _
      | exact LeO.none _
      | refine LeO.ite ?_ ?_
      | refine LeO.bind ?_ (fun _ => ?_)
    · intro y0 y1 y2 y3 y4
      unfold laws_FnUdp.j2
      repeat' first
      | (with_reducible exact ih0 _ _ _)
      | (with_reducible exact ih1 _ _ _ _ _)
      | (with_reducible exact ih2 _ _ _ _ _)
      | (with_reducible exact impl_PseudoSum.mono _ _ _ _ _)
      | (with_reducible exact impl_ReadUdp.mono _ _ _ _)
      | (with_reducible exact impl_UdpBytes.mono _ _ _ _ _ _)
      | (with_reducible exact spec_EndsOf.mono _ _)
      | (with_reducible exact spec_PseudoSum.mono _ _ _ _ _)
      | (with_reducible exact spec_UdpBytes.mono _ _ _ _ _ _)
      | (with_reducible exact spec_UdpOf.mono _ _)
      | (with_reducible exact LeO.refl _)
      | (with_reducible exact LeO.none _)
      | (with_reducible refine LeO.ite ?_ ?_)
      | (with_reducible refine LeO.bind ?_ (fun _ => ?_))
      | exact ih0 _ _ _
      | exact ih1 _ _ _ _ _
      | exact ih2 _ _ _ _ _
      | exact impl_PseudoSum.mono _ _ _ _ _
      | exact impl_ReadUdp.mono _ _ _ _
      | exact impl_UdpBytes.mono _ _ _ _ _ _
      | exact spec_EndsOf.mono _ _
      | exact spec_PseudoSum.mono _ _ _ _ _
      | exact spec_UdpBytes.mono _ _ _ _ _ _
      | exact spec_UdpOf.mono _ _
      | exact LeO.none _
      | refine LeO.ite ?_ ?_
      | refine LeO.bind ?_ (fun _ => ?_)
theorem laws_FnUdp.mono : ∀ a0 a1 k, LeO (laws_FnUdp.f k a0 a1) (laws_FnUdp.f (k + 1) a0 a1) := by
  intro a0 a1 k
  obtain ⟨ih0, ih1, ih2⟩ := laws_FnUdp.mono_l k
  unfold laws_FnUdp.f
  repeat' first
      | (with_reducible exact ih0 _ _ _)
      | (with_reducible exact ih1 _ _ _ _ _)
      | (with_reducible exact ih2 _ _ _ _ _)
      | (with_reducible exact impl_PseudoSum.mono _ _ _ _ _)
      | (with_reducible exact impl_ReadUdp.mono _ _ _ _)
      | (with_reducible exact impl_UdpBytes.mono _ _ _ _ _ _)
      | (with_reducible exact spec_EndsOf.mono _ _)
      | (with_reducible exact spec_PseudoSum.mono _ _ _ _ _)
      | (with_reducible exact spec_UdpBytes.mono _ _ _ _ _ _)
      | (with_reducible exact spec_UdpOf.mono _ _)
      | (with_reducible exact LeO.refl _)
      | (with_reducible exact LeO.none _)
      | (with_reducible refine LeO.ite ?_ ?_)
      | (with_reducible refine LeO.bind ?_ (fun _ => ?_))
      | exact ih0 _ _ _
      | exact ih1 _ _ _ _ _
      | exact ih2 _ _ _ _ _
      | exact impl_PseudoSum.mono _ _ _ _ _
      | exact impl_ReadUdp.mono _ _ _ _
      | exact impl_UdpBytes.mono _ _ _ _ _ _
      | exact spec_EndsOf.mono _ _
      | exact spec_PseudoSum.mono _ _ _ _ _
      | exact spec_UdpBytes.mono _ _ _ _ _ _
      | exact spec_UdpOf.mono _ _
      | exact LeO.none _
      | refine LeO.ite ?_ ?_
      | refine LeO.bind ?_ (fun _ => ?_)
def laws_FnUdp.T14 : Bool × List (List Nat × List Nat) := (true, [([], []), ([], []), ([], []), ([2], [2]), ([1, 3], [1, 3]), ([0, 4], [0, 4]), ([5], [5]), ([], []), ([7, 4], [7]), ([8], [8]), ([9], [9]), ([6, 10], [6, 10]), ([0, 4, 0, 1, 2, 3, 4, 5, 6, 7, 8, 9, 10, 11], [0, 4]), ([12, 11, 8, 0, 1, 2, 3, 4, 5, 6, 7, 8, 9, 10, 11], [11, 12])])
def laws_FnUdp.B14 : List Nat := [0, 0, 0, 4, 14, 31, 63, 0, 158, 414, 926, 2047, 4095, 8191]
theorem laws_FnUdp.tab14 : rtab .any (opsOf Try.f6 14) = laws_FnUdp.T14 := by kernel_rfl
theorem laws_FnUdp.bits14 : waitsOk laws_FnUdp.T14.2 laws_FnUdp.B14 = true := by kernel_rfl
set_option maxHeartbeats 8000000 in
set_option maxRecDepth 100000 in
theorem laws_FnUdp.calls (k : Nat) (A0 : Option Addr) (c0 : Nat) (l0 : List Int) (A1 : Option Addr) (c1 : Nat) (l1 : List Int) (r : Bool) (w : World) (hr0 : Kd.C (Kd.int .u8) w A0 l0.length l0) (hc0 : l0.length ≤ c0) (hr1 : Kd.C (Kd.int .u8) w A1 l1.length l1) (hc1 : l1.length ≤ c1) (h : laws_FnUdp.f k l0 l1 = some r) :
    Calls Try.prog 6 #[.slice A0 l0.length c0, .slice A1 l1.length c1] w fun e w' => e = .returned (.bool r) ∧ Below w.heap.size w w' := by
  have hu52 := Try.underlying52
  have HR0 := Aside0.mk hr0
  have HC0 := Aside0.mk hc0
  clear hr0 hc0
  have HR1 := Aside0.mk hr1
  have HC1 := Aside0.mk hc1
  clear hr1 hc1
  have HB := Aside0.mk (Below.refl w.heap.size w)
  have H : (if (l0.length : Int) > 1048576 then (laws_FnUdp.j0 k l0 l1 true) else (laws_FnUdp.j0 k l0 l1 (decide ((l1.length : Int) > 1048576)))) = some r := h
  clear h
  have HC3 := Aside0.mk H
  clear H
  go_enter Try.func6, Try.ntmps6
  go_upto_region 1 with (fail)
  go_cut [27] (fun v27 wc => ∃ (kq : Nat) (x27_2 : Bool), v27 = .bool x27_2 ∧ Aside0 (laws_FnUdp.j0 kq l0 l1 x27_2 = some r) ∧ Aside0 (kq ≤ k) ∧ Aside0 (Below w.heap.size w wc))
  case first =>
    have H := HC3.out
    clear HC3
    by_cases c4 : (l0.length : Int) > 1048576
    · rw [if_pos c4] at H
      have c4b0 : decide (1048576 < (l0.length : Int)) = true := decide_eq_true c4
      have c4b1 : decide (1048576 < l0.length) = true := decide_eq_true (by omega)
      clear c4
      (first | rw [c4b0] | (simp only [i64_w, i32_w]; rw [c4b0]) | skip)
      have H' := Aside0.mk H
      clear H
      go_wp2
      go_meet
      case rel => exact ⟨_, (true), (by first | rfl | (simp; done) | (simp [*]; done)), H', ⟨by first | omega | exact Nat.le_refl _⟩, ⟨by repeat (first | (with_reducible first | exact HB.out | apply below_alloc | apply pw_below_drewN | apply below_drew1) | exact HB.out)⟩⟩
    · rw [if_neg c4] at H
      have c4b0 : decide (1048576 < (l0.length : Int)) = false := decide_eq_false c4
      have c4b1 : decide (1048576 < l0.length) = false := decide_eq_false (by omega)
      clear c4
      (first | rw [c4b0] | (simp only [i64_w, i32_w]; rw [c4b0]) | skip)
      have H' := Aside0.mk H
      clear H
      go_wp2
      go_meet
      case rel => exact ⟨_, (decide ((l1.length : Int) > 1048576)), (by first | rfl | (simp; done) | (simp [*]; done)), H', ⟨by first | omega | exact Nat.le_refl _⟩, ⟨by repeat (first | (with_reducible first | exact HB.out | apply below_alloc | apply pw_below_drewN | apply below_drew1) | exact HB.out)⟩⟩
  case rest =>
    clear HC3
    try clear c1
    try clear p2
    try clear c4
    try clear c4b0
    try clear c4b1
    obtain ⟨kq, x27_2, rfl, HA, HJ2, HB⟩ := hcut
    cases kq with
    | zero => exact absurd HA.out (by simp [laws_FnUdp.j0])
    | succ kj2 =>
      have H := HA.out
      clear HA
      simp only [laws_FnUdp.j0] at H
      by_cases c5 : x27_2 = true
      · subst c5
        have H1 : (some true) = some r := by rw [if_pos rfl] at H; exact H
        clear H
        have H := H1
        clear H1
        obtain rfl := Option.some.inj H
        go_wp2
        go_ret
        exact ⟨by first | rfl | (simp [errW_none, errW_some] <;> rfl) | (simp [*, errW_none, errW_some] <;> rfl), by repeat (first | (with_reducible first | exact HB.out | apply below_alloc | apply pw_below_drewN | apply below_drew1) | exact HB.out)⟩
      · replace c5 := Bool.eq_false_iff.mpr c5
        subst c5
        have H1 : ((spec_EndsOf.f kj2 l1).bind fun bt453 => ((spec_UdpOf.f kj2 l0).bind fun bt455 => ((impl_UdpBytes.f kj2 bt453.1 bt453.2 bt455.1 bt455.2.1 bt455.2.2).bind fun bt461 => ((spec_UdpBytes.f kj2 bt453.1 bt453.2 bt455.1 bt455.2.1 bt455.2.2).bind fun bt465 => ((impl_ReadUdp.f kj2 bt453.1 bt453.2 bt461.1).bind fun bt469 => (if bt461.2 = 0 then (if bt469.2.2.2 = 0 then (if (strOfNums bt461.1).toList = (strOfNums bt465.1).toList then (if bt469.1 = bt455.1 then (if bt469.2.1 = bt455.2.1 then (laws_FnUdp.j1 kj2 l1 bt453.1 bt453.2 bt461.1 ((strOfNums bt469.2.2.1).toList != (strOfNums bt455.2.2).toList)) else (laws_FnUdp.j1 kj2 l1 bt453.1 bt453.2 bt461.1 true)) else (laws_FnUdp.j1 kj2 l1 bt453.1 bt453.2 bt461.1 true)) else (laws_FnUdp.j1 kj2 l1 bt453.1 bt453.2 bt461.1 true)) else (laws_FnUdp.j1 kj2 l1 bt453.1 bt453.2 bt461.1 true)) else (laws_FnUdp.j1 kj2 l1 bt453.1 bt453.2 bt461.1 true))))))) = some r := by rw [if_neg (show ¬ (false = true) by decide)] at H; exact H
        clear H
        have H := H1
        clear H1
        replace H := Option.bind_eq_some_iff.mp H
        obtain ⟨⟨t453, t454⟩, A60, H⟩ := H
        replace H : ((spec_UdpOf.f kj2 l0).bind fun bt455 => ((impl_UdpBytes.f kj2 t453 t454 bt455.1 bt455.2.1 bt455.2.2).bind fun bt461 => ((spec_UdpBytes.f kj2 t453 t454 bt455.1 bt455.2.1 bt455.2.2).bind fun bt465 => ((impl_ReadUdp.f kj2 t453 t454 bt461.1).bind fun bt469 => (if bt461.2 = 0 then (if bt469.2.2.2 = 0 then (if (strOfNums bt461.1).toList = (strOfNums bt465.1).toList then (if bt469.1 = bt455.1 then (if bt469.2.1 = bt455.2.1 then (laws_FnUdp.j1 kj2 l1 t453 t454 bt461.1 ((strOfNums bt469.2.2.1).toList != (strOfNums bt455.2.2).toList)) else (laws_FnUdp.j1 kj2 l1 t453 t454 bt461.1 true)) else (laws_FnUdp.j1 kj2 l1 t453 t454 bt461.1 true)) else (laws_FnUdp.j1 kj2 l1 t453 t454 bt461.1 true)) else (laws_FnUdp.j1 kj2 l1 t453 t454 bt461.1 true)) else (laws_FnUdp.j1 kj2 l1 t453 t454 bt461.1 true)))))) = some r := H
        have A6 := Aside0.mk A60
        clear A60
        replace H := Option.bind_eq_some_iff.mp H
        obtain ⟨⟨t455, t456, t457⟩, A70, H⟩ := H
        replace H : ((impl_UdpBytes.f kj2 t453 t454 t455 t456 t457).bind fun bt461 => ((spec_UdpBytes.f kj2 t453 t454 t455 t456 t457).bind fun bt465 => ((impl_ReadUdp.f kj2 t453 t454 bt461.1).bind fun bt469 => (if bt461.2 = 0 then (if bt469.2.2.2 = 0 then (if (strOfNums bt461.1).toList = (strOfNums bt465.1).toList then (if bt469.1 = t455 then (if bt469.2.1 = t456 then (laws_FnUdp.j1 kj2 l1 t453 t454 bt461.1 ((strOfNums bt469.2.2.1).toList != (strOfNums t457).toList)) else (laws_FnUdp.j1 kj2 l1 t453 t454 bt461.1 true)) else (laws_FnUdp.j1 kj2 l1 t453 t454 bt461.1 true)) else (laws_FnUdp.j1 kj2 l1 t453 t454 bt461.1 true)) else (laws_FnUdp.j1 kj2 l1 t453 t454 bt461.1 true)) else (laws_FnUdp.j1 kj2 l1 t453 t454 bt461.1 true))))) = some r := H
        have A7 := Aside0.mk A70
        clear A70
        replace H := Option.bind_eq_some_iff.mp H
        obtain ⟨⟨t461, t464⟩, A80, H⟩ := H
        replace H : ((spec_UdpBytes.f kj2 t453 t454 t455 t456 t457).bind fun bt465 => ((impl_ReadUdp.f kj2 t453 t454 t461).bind fun bt469 => (if t464 = 0 then (if bt469.2.2.2 = 0 then (if (strOfNums t461).toList = (strOfNums bt465.1).toList then (if bt469.1 = t455 then (if bt469.2.1 = t456 then (laws_FnUdp.j1 kj2 l1 t453 t454 t461 ((strOfNums bt469.2.2.1).toList != (strOfNums t457).toList)) else (laws_FnUdp.j1 kj2 l1 t453 t454 t461 true)) else (laws_FnUdp.j1 kj2 l1 t453 t454 t461 true)) else (laws_FnUdp.j1 kj2 l1 t453 t454 t461 true)) else (laws_FnUdp.j1 kj2 l1 t453 t454 t461 true)) else (laws_FnUdp.j1 kj2 l1 t453 t454 t461 true)))) = some r := H
        have A8 := Aside0.mk A80
        clear A80
        replace H := Option.bind_eq_some_iff.mp H
        obtain ⟨⟨t465, t468⟩, A90, H⟩ := H
        replace H : ((impl_ReadUdp.f kj2 t453 t454 t461).bind fun bt469 => (if t464 = 0 then (if bt469.2.2.2 = 0 then (if (strOfNums t461).toList = (strOfNums t465).toList then (if bt469.1 = t455 then (if bt469.2.1 = t456 then (laws_FnUdp.j1 kj2 l1 t453 t454 t461 ((strOfNums bt469.2.2.1).toList != (strOfNums t457).toList)) else (laws_FnUdp.j1 kj2 l1 t453 t454 t461 true)) else (laws_FnUdp.j1 kj2 l1 t453 t454 t461 true)) else (laws_FnUdp.j1 kj2 l1 t453 t454 t461 true)) else (laws_FnUdp.j1 kj2 l1 t453 t454 t461 true)) else (laws_FnUdp.j1 kj2 l1 t453 t454 t461 true))) = some r := H
        have A9 := Aside0.mk A90
        clear A90
        replace H := Option.bind_eq_some_iff.mp H
        obtain ⟨⟨t469, t470, t471, t474⟩, A100, H⟩ := H
        replace H : (if t464 = 0 then (if t474 = 0 then (if (strOfNums t461).toList = (strOfNums t465).toList then (if t469 = t455 then (if t470 = t456 then (laws_FnUdp.j1 kj2 l1 t453 t454 t461 ((strOfNums t471).toList != (strOfNums t457).toList)) else (laws_FnUdp.j1 kj2 l1 t453 t454 t461 true)) else (laws_FnUdp.j1 kj2 l1 t453 t454 t461 true)) else (laws_FnUdp.j1 kj2 l1 t453 t454 t461 true)) else (laws_FnUdp.j1 kj2 l1 t453 t454 t461 true)) else (laws_FnUdp.j1 kj2 l1 t453 t454 t461 true)) = some r := H
        have A10 := Aside0.mk A100
        clear A100
        have HC11 := Aside0.mk H
        clear H
        go_upto_region 8 with (first | ((with_reducible refine gate_callee (f := 32) rfl ?_); refine goesL_ (some 30) rfl rfl Try.func32 (by kernel_rfl) rfl #[.slice A1 l1.length c1] rfl (by (try simp only [List.map_toArray, List.map_cons, List.map_nil]); first | done | rfl | (simp only [List.length_drop, List.length_take]; rfl)) ?_; (with_reducible refine (spec_EndsOf.calls kj2 _ _ l1 t453 t454 _ ?side1 ?side2 A6.out).mono ?_); (case side1 => repeat (first | exact (Kd.C_below HR1.out HB.out) | (with_reducible refine Kd.C_alloc ?_ _) | (with_reducible refine Kd.C_drewN ?_ _) | (with_reducible refine Kd.C_drew ?_))); (case side2 => exact HC1.out); rintro e w12 ⟨rfl, hb⟩; refine ⟨_, rfl, ?_⟩; have n0_ := Aside0.mk (below_step (by repeat (first | (with_reducible first | exact HB.out | apply below_alloc | apply pw_below_drewN | apply below_drew1) | exact HB.out)) hb); clear HB; have HB := n0_; clear n0_; (try clear hb); (try clear hb2); (try clear hk); (try clear hi)) | ((with_reducible refine gate_callee (f := 33) rfl ?_); refine goesL_ (some 34) rfl rfl Try.func33 (by kernel_rfl) rfl #[.slice A0 l0.length c0] rfl (by (try simp only [List.map_toArray, List.map_cons, List.map_nil]); first | done | rfl | (simp only [List.length_drop, List.length_take]; rfl)) ?_; (with_reducible refine (spec_UdpOf.calls kj2 _ _ l0 t455 t456 t457 _ ?side1 ?side2 A7.out).mono ?_); (case side1 => repeat (first | exact (Kd.C_below HR0.out HB.out) | (with_reducible refine Kd.C_alloc ?_ _) | (with_reducible refine Kd.C_drewN ?_ _) | (with_reducible refine Kd.C_drew ?_))); (case side2 => exact HC0.out); rintro e w13 ⟨v458, rfl, ho0, hb⟩; refine ⟨_, rfl, ?_⟩; have n0_ := Aside0.mk (Kd.R_lower ho0 (below_size (by repeat (first | (with_reducible first | exact HB.out | apply below_alloc | apply pw_below_drewN | apply below_drew1) | exact HB.out)))); have n1_ := Aside0.mk (below_step (by repeat (first | (with_reducible first | exact HB.out | apply below_alloc | apply pw_below_drewN | apply below_drew1) | exact HB.out)) hb); clear HB; have HO459 := n0_; have HB := n1_; clear n0_ n1_; (try clear hb); (try clear hb2); (try clear hk); (try clear hi); (try clear ho0)) | ((with_reducible refine gate_dst (N := 7) rfl ?_); refine box_event ?hg (N := 7) ?hd (cs := #[.int .i64 0, .int .i64 0, .slice none 0 0]) (t := 52) ?hr ?_; (case hd => rfl); (case hg => rfl); (case hr => first | (go_simp; done) | (go_simp; rfl)); intro gb460 hg w14 hbox hb; have n0_ := Aside0.mk (Kd.R_below (by (with_reducible repeat (first | apply Kd.R_alloc | apply Kd.R_drewN | apply Kd.R_drew)); exact HO459.out) hb); have n1_ := Aside0.mk (below_step (by repeat (first | (with_reducible first | exact HB.out | apply below_alloc | apply pw_below_drewN | apply below_drew1) | exact HB.out)) hb); have n2_ := Aside0.mk (hbox); have n3_ := Aside0.mk ((by rw [hg]; exact (below_size (by repeat (first | (with_reducible first | exact HB.out | apply below_alloc | apply pw_below_drewN | apply below_drew1) | exact HB.out))) : w.heap.size ≤ gb460)); have n4_ := Aside0.mk ((by rw [hg]; exact (below_size (by repeat (first | (with_reducible first | exact HB.out | apply below_alloc | apply pw_below_drewN | apply below_drew1) | exact HB.out))) : w.heap.size ≤ gb460)); clear HO459; clear HB; have HO459 := n0_; have HB := n1_; have BK460 := n2_; have GW460 := n3_; have GE460 := n4_; clear n0_ n1_ n2_ n3_ n4_; clear hb hbox hg; have hcz15_0 : w14.cell? ⟨gb460, 0, none⟩ = some (.int .i64 0) := (blk_cell BK460.out 0).trans rfl; have hcz15_1 : w14.cell? ⟨gb460, 1, none⟩ = some (.int .i64 0) := (blk_cell BK460.out 1).trans rfl; have hcz15_2 : w14.cell? ⟨gb460, 2, none⟩ = some (.slice none 0 0) := (blk_cell BK460.out 2).trans rfl; have hfz15_0 := blk_frozen BK460.out 0; have hfz15_1 := blk_frozen BK460.out 1; have hfz15_2 := blk_frozen BK460.out 2; obtain ⟨Ao16, co16, eo16⟩ := Kd.R_slice HO459.out; subst eo16) | ((with_reducible refine gate_callee (f := 34) rfl ?_); refine goesL_ (some 39) rfl rfl Try.func34 (by kernel_rfl) rfl #[.string t453, .string t454, .agg #[.int .i64 t455, .int .i64 t456, .slice Ao16 t457.length co16]] rfl (by (try simp only [List.map_toArray, List.map_cons, List.map_nil]); first | done | rfl | (simp only [List.length_drop, List.length_take]; rfl)) ?_; (with_reducible refine (impl_UdpBytes.calls kj2 t453 t454 t455 t456 _ _ t457 t461 t464 _ ?side1 ?side2 A8.out).mono ?_); (case side1 => refine (Kd.R_reads' (e := 5) (base := w.heap.size) (ok := fun k_ => True) (n := t457.length) (c := co16) ?_).2.2; exact (by (with_reducible repeat (first | apply Kd.R_alloc | apply Kd.R_drewN | apply Kd.R_drew)); exact (Kd.R_mono (Kd.R_far (p := ⟨gb460, 2, none⟩) (Kd.R_far (p := ⟨gb460, 1, none⟩) (Kd.R_far (p := ⟨gb460, 0, none⟩) (Kd.R_types HO459.out BK460.out (by decide)) (fun _ hk => hk.2) (.int .i64 t455)) (fun _ hk => hk.2) (.int .i64 t456)) (fun _ hk => hk.2) (.slice Ao16 t457.length co16)) (fun _ h_ => h_.1)))); (case side2 => exact (Kd.R_reads' HO459.out).2.1); rintro e w17 ⟨v462, rfl, ho0, hb⟩; refine ⟨_, rfl, ?_⟩; have n0_ := Aside0.mk (Kd.R_elder' (by (with_reducible repeat (first | apply Kd.R_alloc | apply Kd.R_drewN | apply Kd.R_drew)); exact (Kd.R_mono (Kd.R_far (p := ⟨gb460, 2, none⟩) (Kd.R_far (p := ⟨gb460, 1, none⟩) (Kd.R_far (p := ⟨gb460, 0, none⟩) (Kd.R_types HO459.out BK460.out (by decide)) (fun _ hk => hk.2) (.int .i64 t455)) (fun _ hk => hk.2) (.int .i64 t456)) (fun _ hk => hk.2) (.slice Ao16 t457.length co16)) (fun _ h_ => h_.1))) (Kd.R_base ho0) hb); have n1_ := Aside0.mk (Kd.R_lower (Kd.R_new' ho0 (Kd.R_lt (by (with_reducible repeat (first | apply Kd.R_alloc | apply Kd.R_drewN | apply Kd.R_drew)); exact (Kd.R_mono (Kd.R_far (p := ⟨gb460, 2, none⟩) (Kd.R_far (p := ⟨gb460, 1, none⟩) (Kd.R_far (p := ⟨gb460, 0, none⟩) (Kd.R_types HO459.out BK460.out (by decide)) (fun _ hk => hk.2) (.int .i64 t455)) (fun _ hk => hk.2) (.int .i64 t456)) (fun _ hk => hk.2) (.slice Ao16 t457.length co16)) (fun _ h_ => h_.1))))) (below_size (by repeat (first | (with_reducible first | exact HB.out | apply below_alloc | apply pw_below_drewN | apply below_drew1 | refine below_set ?_ GE460.out) | exact HB.out)))); have n2_ := Aside0.mk (blk_below (g := gb460) (o := .cells #[.int .i64 t455, .int .i64 t456, .slice Ao16 t457.length co16] 52 (0, 0)) (by (with_reducible repeat (first | refine blk_drewN ?_ _ | refine blk_drew ?_ | refine blk_alloc ?_ _)); refine blk_put (cs := #[.int .i64 t455, .int .i64 t456, .slice none 0 0]) ?_ 2 _ rfl; (with_reducible repeat (first | refine blk_drewN ?_ _ | refine blk_drew ?_ | refine blk_alloc ?_ _)); refine blk_put (cs := #[.int .i64 t455, .int .i64 0, .slice none 0 0]) ?_ 1 _ rfl; (with_reducible repeat (first | refine blk_drewN ?_ _ | refine blk_drew ?_ | refine blk_alloc ?_ _)); refine blk_put (cs := #[.int .i64 0, .int .i64 0, .slice none 0 0]) ?_ 0 _ rfl; (with_reducible repeat (first | refine blk_drewN ?_ _ | refine blk_drew ?_ | refine blk_alloc ?_ _)); exact BK460.out) hb); have n3_ := Aside0.mk (below_step (by repeat (first | (with_reducible first | exact HB.out | apply below_alloc | apply pw_below_drewN | apply below_drew1 | refine below_set ?_ GE460.out) | exact HB.out)) hb); clear HO459; clear BK460; clear HB; have HO459 := n0_; have HO463 := n1_; have BK460 := n2_; have HB := n3_; clear n0_ n1_ n2_ n3_; (try clear hb); (try clear hb2); (try clear hk); (try clear hi); (try clear ho0); have hcz18_0 : w17.cell? ⟨gb460, 0, none⟩ = some (.int .i64 t455) := (blk_cell BK460.out 0).trans rfl; have hcz18_1 : w17.cell? ⟨gb460, 1, none⟩ = some (.int .i64 t456) := (blk_cell BK460.out 1).trans rfl; have hcz18_2 : w17.cell? ⟨gb460, 2, none⟩ = some (.slice Ao16 t457.length co16) := (blk_cell BK460.out 2).trans rfl; have hfz18_0 := blk_frozen BK460.out 0; have hfz18_1 := blk_frozen BK460.out 1; have hfz18_2 := blk_frozen BK460.out 2) | ((with_reducible refine gate_callee (f := 35) rfl ?_); refine goesL_ (some 46) rfl rfl Try.func35 (by kernel_rfl) rfl #[.string t453, .string t454, .agg #[.int .i64 t455, .int .i64 t456, .slice Ao16 t457.length co16]] rfl (by (try simp only [List.map_toArray, List.map_cons, List.map_nil]); first | done | rfl | (simp only [List.length_drop, List.length_take]; rfl)) ?_; (with_reducible refine (spec_UdpBytes.calls kj2 t453 t454 t455 t456 _ _ t457 t465 t468 _ ?side1 ?side2 A9.out).mono ?_); (case side1 => repeat (first | exact (Kd.R_reads' HO459.out).2.2 | (with_reducible refine Kd.C_alloc ?_ _) | (with_reducible refine Kd.C_drewN ?_ _) | (with_reducible refine Kd.C_drew ?_))); (case side2 => exact (Kd.R_reads' HO459.out).2.1); rintro e w19 ⟨v466, rfl, ho0, hb⟩; refine ⟨_, rfl, ?_⟩; have n0_ := Aside0.mk (Kd.R_elder' (by (with_reducible repeat (first | apply Kd.R_alloc | apply Kd.R_drewN | apply Kd.R_drew)); exact HO459.out) (Kd.R_base ho0) hb); have n1_ := Aside0.mk (Kd.R_elder' (by (with_reducible repeat (first | apply Kd.R_alloc | apply Kd.R_drewN | apply Kd.R_drew)); exact HO463.out) (Kd.R_base ho0) hb); have n2_ := Aside0.mk (Kd.R_lower (Kd.R_new' (Kd.R_new' ho0 (Kd.R_lt (by (with_reducible repeat (first | apply Kd.R_alloc | apply Kd.R_drewN | apply Kd.R_drew)); exact HO459.out))) (Kd.R_lt (by (with_reducible repeat (first | apply Kd.R_alloc | apply Kd.R_drewN | apply Kd.R_drew)); exact HO463.out))) (below_size (by repeat (first | (with_reducible first | exact HB.out | apply below_alloc | apply pw_below_drewN | apply below_drew1 | refine below_set ?_ GE460.out) | exact HB.out)))); have n3_ := Aside0.mk (blk_below (g := gb460) (o := .cells #[.int .i64 t455, .int .i64 t456, .slice Ao16 t457.length co16] 52 (0, 0)) (by (with_reducible repeat (first | refine blk_drewN ?_ _ | refine blk_drew ?_ | refine blk_alloc ?_ _)); exact BK460.out) hb); have n4_ := Aside0.mk (below_step (by repeat (first | (with_reducible first | exact HB.out | apply below_alloc | apply pw_below_drewN | apply below_drew1 | refine below_set ?_ GE460.out) | exact HB.out)) hb); clear HO459; clear HO463; clear BK460; clear HB; have HO459 := n0_; have HO463 := n1_; have HO467 := n2_; have BK460 := n3_; have HB := n4_; clear n0_ n1_ n2_ n3_ n4_; (try clear hb); (try clear hb2); (try clear hk); (try clear hi); (try clear ho0); obtain ⟨Ao20, co20, eo20⟩ := Kd.R_slice HO463.out; subst eo20) | ((with_reducible refine gate_callee (f := 36) rfl ?_); refine goesL_ (some 53) rfl rfl Try.func36 (by kernel_rfl) rfl #[.string t453, .string t454, .slice Ao20 t461.length co20] rfl (by (try simp only [List.map_toArray, List.map_cons, List.map_nil]); first | done | rfl | (simp only [List.length_drop, List.length_take]; rfl)) ?_; (with_reducible refine (impl_ReadUdp.calls kj2 t453 t454 _ _ t461 t469 t470 t471 t474 _ ?side1 ?side2 A10.out).mono ?_); (case side1 => repeat (first | exact (Kd.R_reads' HO463.out).2.2 | (with_reducible refine Kd.C_alloc ?_ _) | (with_reducible refine Kd.C_drewN ?_ _) | (with_reducible refine Kd.C_drew ?_))); (case side2 => exact (Kd.R_reads' HO463.out).2.1); rintro e w21 ⟨v472, rfl, ho0, hb⟩; refine ⟨_, rfl, ?_⟩; have n0_ := Aside0.mk (Kd.R_elder' (by (with_reducible repeat (first | apply Kd.R_alloc | apply Kd.R_drewN | apply Kd.R_drew)); exact HO459.out) (Kd.R_base ho0) hb); have n1_ := Aside0.mk (Kd.R_elder' (by (with_reducible repeat (first | apply Kd.R_alloc | apply Kd.R_drewN | apply Kd.R_drew)); exact HO463.out) (Kd.R_base ho0) hb); have n2_ := Aside0.mk (Kd.R_elder' (by (with_reducible repeat (first | apply Kd.R_alloc | apply Kd.R_drewN | apply Kd.R_drew)); exact HO467.out) (Kd.R_base ho0) hb); have n3_ := Aside0.mk (Kd.R_lower (Kd.R_new' (Kd.R_new' (Kd.R_new' ho0 (Kd.R_lt (by (with_reducible repeat (first | apply Kd.R_alloc | apply Kd.R_drewN | apply Kd.R_drew)); exact HO459.out))) (Kd.R_lt (by (with_reducible repeat (first | apply Kd.R_alloc | apply Kd.R_drewN | apply Kd.R_drew)); exact HO463.out))) (Kd.R_lt (by (with_reducible repeat (first | apply Kd.R_alloc | apply Kd.R_drewN | apply Kd.R_drew)); exact HO467.out))) (below_size (by repeat (first | (with_reducible first | exact HB.out | apply below_alloc | apply pw_below_drewN | apply below_drew1 | refine below_set ?_ GE460.out) | exact HB.out)))); have n4_ := Aside0.mk (blk_below (g := gb460) (o := .cells #[.int .i64 t455, .int .i64 t456, .slice Ao16 t457.length co16] 52 (0, 0)) (by (with_reducible repeat (first | refine blk_drewN ?_ _ | refine blk_drew ?_ | refine blk_alloc ?_ _)); exact BK460.out) hb); have n5_ := Aside0.mk (below_step (by repeat (first | (with_reducible first | exact HB.out | apply below_alloc | apply pw_below_drewN | apply below_drew1 | refine below_set ?_ GE460.out) | exact HB.out)) hb); clear HO459; clear HO463; clear HO467; clear BK460; clear HB; have HO459 := n0_; have HO463 := n1_; have HO467 := n2_; have HO473 := n3_; have BK460 := n4_; have HB := n5_; clear n0_ n1_ n2_ n3_ n4_ n5_; (try clear hb); (try clear hb2); (try clear hk); (try clear hi); (try clear ho0)) | ((with_reducible refine gate_dst (N := 12) rfl ?_); refine box_event ?hg (N := 12) ?hd (cs := #[.int .i64 0, .int .i64 0, .slice none 0 0]) (t := 52) ?hr ?_; (case hd => rfl); (case hg => rfl); (case hr => first | (go_simp; done) | (go_simp; rfl)); intro gb475 hg w22 hbox hb; have n0_ := Aside0.mk (Kd.R_below (by (with_reducible repeat (first | apply Kd.R_alloc | apply Kd.R_drewN | apply Kd.R_drew)); exact HO459.out) hb); have n1_ := Aside0.mk (Kd.R_below (by (with_reducible repeat (first | apply Kd.R_alloc | apply Kd.R_drewN | apply Kd.R_drew)); exact HO463.out) hb); have n2_ := Aside0.mk (Kd.R_below (by (with_reducible repeat (first | apply Kd.R_alloc | apply Kd.R_drewN | apply Kd.R_drew)); exact HO467.out) hb); have n3_ := Aside0.mk (Kd.R_below (by (with_reducible repeat (first | apply Kd.R_alloc | apply Kd.R_drewN | apply Kd.R_drew)); exact HO473.out) hb); have n4_ := Aside0.mk (blk_below (g := gb460) (o := .cells #[.int .i64 t455, .int .i64 t456, .slice Ao16 t457.length co16] 52 (0, 0)) (by (with_reducible repeat (first | refine blk_drewN ?_ _ | refine blk_drew ?_ | refine blk_alloc ?_ _)); exact BK460.out) hb); have n5_ := Aside0.mk (below_step (by repeat (first | (with_reducible first | exact HB.out | apply below_alloc | apply pw_below_drewN | apply below_drew1 | refine below_set ?_ GE460.out) | exact HB.out)) hb); have n6_ := Aside0.mk (hbox); have n7_ := Aside0.mk ((by rw [hg]; exact (below_size (by repeat (first | (with_reducible first | exact HB.out | apply below_alloc | apply pw_below_drewN | apply below_drew1 | refine below_set ?_ GE460.out) | exact HB.out))) : w.heap.size ≤ gb475)); have n8_ := Aside0.mk ((by rw [hg]; exact (below_size (by repeat (first | (with_reducible first | exact HB.out | apply below_alloc | apply pw_below_drewN | apply below_drew1 | refine below_set ?_ GE460.out) | exact HB.out))) : w.heap.size ≤ gb475)); have n9_ := Aside0.mk ((by rw [hg]; exact Nat.ne_of_lt (blk_lt (g := gb460) (o := .cells #[.int .i64 t455, .int .i64 t456, .slice Ao16 t457.length co16] 52 (0, 0)) (by (with_reducible repeat (first | refine blk_drewN ?_ _ | refine blk_drew ?_ | refine blk_alloc ?_ _)); exact BK460.out)) : gb460 ≠ gb475)); have n10_ := Aside0.mk ((by rw [hg]; exact Nat.ne_of_gt (blk_lt (g := gb460) (o := .cells #[.int .i64 t455, .int .i64 t456, .slice Ao16 t457.length co16] 52 (0, 0)) (by (with_reducible repeat (first | refine blk_drewN ?_ _ | refine blk_drew ?_ | refine blk_alloc ?_ _)); exact BK460.out)) : gb475 ≠ gb460)); clear HO459; clear HO463; clear HO467; clear HO473; clear BK460; clear HB; have HO459 := n0_; have HO463 := n1_; have HO467 := n2_; have HO473 := n3_; have BK460 := n4_; have HB := n5_; have BK475 := n6_; have GW475 := n7_; have GE475 := n8_; have NB460_475 := n9_; have NB475_460 := n10_; clear n0_ n1_ n2_ n3_ n4_ n5_ n6_ n7_ n8_ n9_ n10_; clear hb hbox hg; have hnb23 := NB475_460.out; have hnc23 := NB460_475.out; have hcz24_0 : w22.cell? ⟨gb475, 0, none⟩ = some (.int .i64 0) := (blk_cell BK475.out 0).trans rfl; have hcz24_1 : w22.cell? ⟨gb475, 1, none⟩ = some (.int .i64 0) := (blk_cell BK475.out 1).trans rfl; have hcz24_2 : w22.cell? ⟨gb475, 2, none⟩ = some (.slice none 0 0) := (blk_cell BK475.out 2).trans rfl; have hfz24_0 := blk_frozen BK475.out 0; have hfz24_1 := blk_frozen BK475.out 1; have hfz24_2 := blk_frozen BK475.out 2; obtain ⟨Ao25, co25, eo25⟩ := Kd.R_slice HO473.out; subst eo25))
        (try simp only [Act.put, List.setIfInBounds_toArray, List.set_cons_zero, List.set_cons_succ])
        go_cut [91] (fun v91 wc => ∃ (kq : Nat) (x91_10 : Bool), v91 = .bool x91_10 ∧ Aside0 (laws_FnUdp.j1 kq l1 t453 t454 t461 x91_10 = some r) ∧ Aside0 (kq ≤ kj2) ∧ Aside0 (Kd.R (Kd.int .u8) 5 wc w.heap.size (fun k_ => some k_ ≠ ((.slice Ao16 t457.length co16) : Value).ownBlock ∧ some k_ ≠ ((.slice Ao25 t471.length co25) : Value).ownBlock) (.slice Ao20 t461.length co20) t461) ∧ Aside0 (Kd.R (Kd.int .u8) 5 wc w.heap.size (fun k_ => some k_ ≠ ((.slice Ao20 t461.length co20) : Value).ownBlock ∧ some k_ ≠ ((.slice Ao25 t471.length co25) : Value).ownBlock) (.slice Ao16 t457.length co16) t457) ∧ Aside0 (Kd.R (Kd.int .u8) 5 wc w.heap.size (fun k_ => some k_ ≠ ((.slice Ao20 t461.length co20) : Value).ownBlock ∧ some k_ ≠ ((.slice Ao16 t457.length co16) : Value).ownBlock) (.slice Ao25 t471.length co25) t471) ∧ Aside0 (wc.heap[gb460]? = some (.cells #[.int .i64 t455, .int .i64 t456, (.slice Ao16 t457.length co16)] 52 (0, 0))) ∧ Aside0 (wc.heap[gb475]? = some (.cells #[.int .i64 t469, .int .i64 t470, (.slice Ao25 t471.length co25)] 52 (0, 0))) ∧ Aside0 (Below w.heap.size w wc))
        case first =>
          have H := HC11.out
          clear HC11
          by_cases c26 : t464 = 0
          · rw [if_pos c26] at H
            have c26b0 : (t464 == 0) = true := beq_iff_eq.mpr c26
            have c26b1 : (t464 != 0) = false := bne_eq_false_iff_eq.mpr c26
            clear c26
            (first | rw [c26b0] | (simp only [i64_w, i32_w]; rw [c26b0]) | skip)
            by_cases c27 : t474 = 0
            · rw [if_pos c27] at H
              have c27b0 : (t474 == 0) = true := beq_iff_eq.mpr c27
              have c27b1 : (t474 != 0) = false := bne_eq_false_iff_eq.mpr c27
              clear c27
              by_cases c28 : (strOfNums t461).toList = (strOfNums t465).toList
              · rw [if_pos c28] at H
                have c28b0 : ((strOfNums t461).toList == (strOfNums t465).toList) = true := beq_iff_eq.mpr c28
                have c28b1 : ((strOfNums t461).toList != (strOfNums t465).toList) = false := bne_eq_false_iff_eq.mpr c28
                clear c28
                by_cases c29 : t469 = t455
                · rw [if_pos c29] at H
                  have c29b0 : (t469 == t455) = true := beq_iff_eq.mpr c29
                  have c29b1 : (t469 != t455) = false := bne_eq_false_iff_eq.mpr c29
                  clear c29
                  by_cases c30 : t470 = t456
                  · rw [if_pos c30] at H
                    have c30b0 : (t470 == t456) = true := beq_iff_eq.mpr c30
                    have c30b1 : (t470 != t456) = false := bne_eq_false_iff_eq.mpr c30
                    clear c30
                    have H' := Aside0.mk H
                    clear H
                    (try have hcv31 := (own_string (P := Try.prog) (w := (((w22.setCell ⟨gb475, 0, none⟩ (.int .i64 t469)).setCell ⟨gb475, 1, none⟩ (.int .i64 t470)).setCell ⟨gb475, 2, none⟩ (.slice Ao25 t471.length co25))) Try.underlying25 Try.underlying5 Try.underlying9 (Kd.own_of_R (show Kd.R (Kd.int .u8) 5 (((w22.setCell ⟨gb475, 0, none⟩ (.int .i64 t469)).setCell ⟨gb475, 1, none⟩ (.int .i64 t470)).setCell ⟨gb475, 2, none⟩ (.slice Ao25 t471.length co25)) w.heap.size (fun k_ => (((True ∧ some k_ ≠ (.slice Ao16 t457.length co16 : Value).ownBlock) ∧ some k_ ≠ (v466 : Value).ownBlock) ∧ some k_ ≠ (.slice Ao25 t471.length co25 : Value).ownBlock)) (.slice Ao20 t461.length co20) t461 from (by (with_reducible repeat (first | apply Kd.R_alloc | apply Kd.R_drewN | apply Kd.R_drew)); exact (Kd.R_mono (Kd.R_far (p := ⟨gb475, 2, none⟩) (Kd.R_far (p := ⟨gb475, 1, none⟩) (Kd.R_far (p := ⟨gb475, 0, none⟩) (Kd.R_types HO463.out BK475.out (by decide)) (fun _ hk => hk.2) (.int .i64 t469)) (fun _ hk => hk.2) (.int .i64 t470)) (fun _ hk => hk.2) (.slice Ao25 t471.length co25)) (fun _ h_ => h_.1)))))))
                    (try have hcv32 := fun (n_ : Nat) => (own_string (P := Try.prog) (w := ((((w22.drewN n_).setCell ⟨gb475, 0, none⟩ (.int .i64 t469)).setCell ⟨gb475, 1, none⟩ (.int .i64 t470)).setCell ⟨gb475, 2, none⟩ (.slice Ao25 t471.length co25))) Try.underlying25 Try.underlying5 Try.underlying9 (Kd.own_of_R (show Kd.R (Kd.int .u8) 5 ((((w22.drewN n_).setCell ⟨gb475, 0, none⟩ (.int .i64 t469)).setCell ⟨gb475, 1, none⟩ (.int .i64 t470)).setCell ⟨gb475, 2, none⟩ (.slice Ao25 t471.length co25)) w.heap.size (fun k_ => (((True ∧ some k_ ≠ (.slice Ao16 t457.length co16 : Value).ownBlock) ∧ some k_ ≠ (v466 : Value).ownBlock) ∧ some k_ ≠ (.slice Ao25 t471.length co25 : Value).ownBlock)) (.slice Ao20 t461.length co20) t461 from (by (with_reducible repeat (first | apply Kd.R_alloc | apply Kd.R_drewN | apply Kd.R_drew)); exact (Kd.R_mono (Kd.R_far (p := ⟨gb475, 2, none⟩) (Kd.R_far (p := ⟨gb475, 1, none⟩) (Kd.R_far (p := ⟨gb475, 0, none⟩) (Kd.R_types HO463.out BK475.out (by decide)) (fun _ hk => hk.2) (.int .i64 t469)) (fun _ hk => hk.2) (.int .i64 t470)) (fun _ hk => hk.2) (.slice Ao25 t471.length co25)) (fun _ h_ => h_.1)))))))
                    (try have hcv33 := fun (n_ : Nat) => (own_string (P := Try.prog) (w := ((((w22.setCell ⟨gb475, 0, none⟩ (.int .i64 t469)).drewN n_).setCell ⟨gb475, 1, none⟩ (.int .i64 t470)).setCell ⟨gb475, 2, none⟩ (.slice Ao25 t471.length co25))) Try.underlying25 Try.underlying5 Try.underlying9 (Kd.own_of_R (show Kd.R (Kd.int .u8) 5 ((((w22.setCell ⟨gb475, 0, none⟩ (.int .i64 t469)).drewN n_).setCell ⟨gb475, 1, none⟩ (.int .i64 t470)).setCell ⟨gb475, 2, none⟩ (.slice Ao25 t471.length co25)) w.heap.size (fun k_ => (((True ∧ some k_ ≠ (.slice Ao16 t457.length co16 : Value).ownBlock) ∧ some k_ ≠ (v466 : Value).ownBlock) ∧ some k_ ≠ (.slice Ao25 t471.length co25 : Value).ownBlock)) (.slice Ao20 t461.length co20) t461 from (by (with_reducible repeat (first | apply Kd.R_alloc | apply Kd.R_drewN | apply Kd.R_drew)); exact (Kd.R_mono (Kd.R_far (p := ⟨gb475, 2, none⟩) (Kd.R_far (p := ⟨gb475, 1, none⟩) (Kd.R_far (p := ⟨gb475, 0, none⟩) (Kd.R_types HO463.out BK475.out (by decide)) (fun _ hk => hk.2) (.int .i64 t469)) (fun _ hk => hk.2) (.int .i64 t470)) (fun _ hk => hk.2) (.slice Ao25 t471.length co25)) (fun _ h_ => h_.1)))))))
                    (try have hcv34 := fun (n_ : Nat) => (own_string (P := Try.prog) (w := ((((w22.setCell ⟨gb475, 0, none⟩ (.int .i64 t469)).setCell ⟨gb475, 1, none⟩ (.int .i64 t470)).drewN n_).setCell ⟨gb475, 2, none⟩ (.slice Ao25 t471.length co25))) Try.underlying25 Try.underlying5 Try.underlying9 (Kd.own_of_R (show Kd.R (Kd.int .u8) 5 ((((w22.setCell ⟨gb475, 0, none⟩ (.int .i64 t469)).setCell ⟨gb475, 1, none⟩ (.int .i64 t470)).drewN n_).setCell ⟨gb475, 2, none⟩ (.slice Ao25 t471.length co25)) w.heap.size (fun k_ => (((True ∧ some k_ ≠ (.slice Ao16 t457.length co16 : Value).ownBlock) ∧ some k_ ≠ (v466 : Value).ownBlock) ∧ some k_ ≠ (.slice Ao25 t471.length co25 : Value).ownBlock)) (.slice Ao20 t461.length co20) t461 from (by (with_reducible repeat (first | apply Kd.R_alloc | apply Kd.R_drewN | apply Kd.R_drew)); exact (Kd.R_mono (Kd.R_far (p := ⟨gb475, 2, none⟩) (Kd.R_far (p := ⟨gb475, 1, none⟩) (Kd.R_far (p := ⟨gb475, 0, none⟩) (Kd.R_types HO463.out BK475.out (by decide)) (fun _ hk => hk.2) (.int .i64 t469)) (fun _ hk => hk.2) (.int .i64 t470)) (fun _ hk => hk.2) (.slice Ao25 t471.length co25)) (fun _ h_ => h_.1)))))))
                    (try have hcv35 := (own_string (P := Try.prog) (w := (((w22.setCell ⟨gb475, 0, none⟩ (.int .i64 t469)).setCell ⟨gb475, 1, none⟩ (.int .i64 t470)).setCell ⟨gb475, 2, none⟩ (.slice Ao25 t471.length co25))) Try.underlying25 Try.underlying5 Try.underlying9 (Kd.own_of_R (show Kd.R (Kd.int .u8) 5 (((w22.setCell ⟨gb475, 0, none⟩ (.int .i64 t469)).setCell ⟨gb475, 1, none⟩ (.int .i64 t470)).setCell ⟨gb475, 2, none⟩ (.slice Ao25 t471.length co25)) w.heap.size (fun k_ => (((True ∧ some k_ ≠ (.slice Ao16 t457.length co16 : Value).ownBlock) ∧ some k_ ≠ (.slice Ao20 t461.length co20 : Value).ownBlock) ∧ some k_ ≠ (.slice Ao25 t471.length co25 : Value).ownBlock)) v466 t465 from (by (with_reducible repeat (first | apply Kd.R_alloc | apply Kd.R_drewN | apply Kd.R_drew)); exact (Kd.R_mono (Kd.R_far (p := ⟨gb475, 2, none⟩) (Kd.R_far (p := ⟨gb475, 1, none⟩) (Kd.R_far (p := ⟨gb475, 0, none⟩) (Kd.R_types HO467.out BK475.out (by decide)) (fun _ hk => hk.2) (.int .i64 t469)) (fun _ hk => hk.2) (.int .i64 t470)) (fun _ hk => hk.2) (.slice Ao25 t471.length co25)) (fun _ h_ => h_.1)))))))
                    (try have hcv36 := fun (n_ : Nat) => (own_string (P := Try.prog) (w := ((((w22.drewN n_).setCell ⟨gb475, 0, none⟩ (.int .i64 t469)).setCell ⟨gb475, 1, none⟩ (.int .i64 t470)).setCell ⟨gb475, 2, none⟩ (.slice Ao25 t471.length co25))) Try.underlying25 Try.underlying5 Try.underlying9 (Kd.own_of_R (show Kd.R (Kd.int .u8) 5 ((((w22.drewN n_).setCell ⟨gb475, 0, none⟩ (.int .i64 t469)).setCell ⟨gb475, 1, none⟩ (.int .i64 t470)).setCell ⟨gb475, 2, none⟩ (.slice Ao25 t471.length co25)) w.heap.size (fun k_ => (((True ∧ some k_ ≠ (.slice Ao16 t457.length co16 : Value).ownBlock) ∧ some k_ ≠ (.slice Ao20 t461.length co20 : Value).ownBlock) ∧ some k_ ≠ (.slice Ao25 t471.length co25 : Value).ownBlock)) v466 t465 from (by (with_reducible repeat (first | apply Kd.R_alloc | apply Kd.R_drewN | apply Kd.R_drew)); exact (Kd.R_mono (Kd.R_far (p := ⟨gb475, 2, none⟩) (Kd.R_far (p := ⟨gb475, 1, none⟩) (Kd.R_far (p := ⟨gb475, 0, none⟩) (Kd.R_types HO467.out BK475.out (by decide)) (fun _ hk => hk.2) (.int .i64 t469)) (fun _ hk => hk.2) (.int .i64 t470)) (fun _ hk => hk.2) (.slice Ao25 t471.length co25)) (fun _ h_ => h_.1)))))))
                    (try have hcv37 := fun (n_ : Nat) => (own_string (P := Try.prog) (w := ((((w22.setCell ⟨gb475, 0, none⟩ (.int .i64 t469)).drewN n_).setCell ⟨gb475, 1, none⟩ (.int .i64 t470)).setCell ⟨gb475, 2, none⟩ (.slice Ao25 t471.length co25))) Try.underlying25 Try.underlying5 Try.underlying9 (Kd.own_of_R (show Kd.R (Kd.int .u8) 5 ((((w22.setCell ⟨gb475, 0, none⟩ (.int .i64 t469)).drewN n_).setCell ⟨gb475, 1, none⟩ (.int .i64 t470)).setCell ⟨gb475, 2, none⟩ (.slice Ao25 t471.length co25)) w.heap.size (fun k_ => (((True ∧ some k_ ≠ (.slice Ao16 t457.length co16 : Value).ownBlock) ∧ some k_ ≠ (.slice Ao20 t461.length co20 : Value).ownBlock) ∧ some k_ ≠ (.slice Ao25 t471.length co25 : Value).ownBlock)) v466 t465 from (by (with_reducible repeat (first | apply Kd.R_alloc | apply Kd.R_drewN | apply Kd.R_drew)); exact (Kd.R_mono (Kd.R_far (p := ⟨gb475, 2, none⟩) (Kd.R_far (p := ⟨gb475, 1, none⟩) (Kd.R_far (p := ⟨gb475, 0, none⟩) (Kd.R_types HO467.out BK475.out (by decide)) (fun _ hk => hk.2) (.int .i64 t469)) (fun _ hk => hk.2) (.int .i64 t470)) (fun _ hk => hk.2) (.slice Ao25 t471.length co25)) (fun _ h_ => h_.1)))))))
                    (try have hcv38 := fun (n_ : Nat) => (own_string (P := Try.prog) (w := ((((w22.setCell ⟨gb475, 0, none⟩ (.int .i64 t469)).setCell ⟨gb475, 1, none⟩ (.int .i64 t470)).drewN n_).setCell ⟨gb475, 2, none⟩ (.slice Ao25 t471.length co25))) Try.underlying25 Try.underlying5 Try.underlying9 (Kd.own_of_R (show Kd.R (Kd.int .u8) 5 ((((w22.setCell ⟨gb475, 0, none⟩ (.int .i64 t469)).setCell ⟨gb475, 1, none⟩ (.int .i64 t470)).drewN n_).setCell ⟨gb475, 2, none⟩ (.slice Ao25 t471.length co25)) w.heap.size (fun k_ => (((True ∧ some k_ ≠ (.slice Ao16 t457.length co16 : Value).ownBlock) ∧ some k_ ≠ (.slice Ao20 t461.length co20 : Value).ownBlock) ∧ some k_ ≠ (.slice Ao25 t471.length co25 : Value).ownBlock)) v466 t465 from (by (with_reducible repeat (first | apply Kd.R_alloc | apply Kd.R_drewN | apply Kd.R_drew)); exact (Kd.R_mono (Kd.R_far (p := ⟨gb475, 2, none⟩) (Kd.R_far (p := ⟨gb475, 1, none⟩) (Kd.R_far (p := ⟨gb475, 0, none⟩) (Kd.R_types HO467.out BK475.out (by decide)) (fun _ hk => hk.2) (.int .i64 t469)) (fun _ hk => hk.2) (.int .i64 t470)) (fun _ hk => hk.2) (.slice Ao25 t471.length co25)) (fun _ h_ => h_.1)))))))
                    have hnb39 := NB475_460.out
                    have hnc39 := NB460_475.out
                    have hcz40_0 : w22.cell? ⟨gb475, 0, none⟩ = some (.int .i64 0) := (blk_cell BK475.out 0).trans rfl
                    have hcz40_1 : w22.cell? ⟨gb475, 1, none⟩ = some (.int .i64 0) := (blk_cell BK475.out 1).trans rfl
                    have hcz40_2 : w22.cell? ⟨gb475, 2, none⟩ = some (.slice none 0 0) := (blk_cell BK475.out 2).trans rfl
                    have hfz40_0 := blk_frozen BK475.out 0
                    have hfz40_1 := blk_frozen BK475.out 1
                    have hfz40_2 := blk_frozen BK475.out 2
                    have hcz41_0 : w22.cell? ⟨gb460, 0, none⟩ = some (.int .i64 t455) := (blk_cell BK460.out 0).trans rfl
                    have hcz41_1 : w22.cell? ⟨gb460, 1, none⟩ = some (.int .i64 t456) := (blk_cell BK460.out 1).trans rfl
                    have hcz41_2 : w22.cell? ⟨gb460, 2, none⟩ = some (.slice Ao16 t457.length co16) := (blk_cell BK460.out 2).trans rfl
                    have hfz41_0 := blk_frozen BK460.out 0
                    have hfz41_1 := blk_frozen BK460.out 1
                    have hfz41_2 := blk_frozen BK460.out 2
                    (try have hcv42 := (own_string (P := Try.prog) (w := (((w22.setCell ⟨gb475, 0, none⟩ (.int .i64 t469)).setCell ⟨gb475, 1, none⟩ (.int .i64 t470)).setCell ⟨gb475, 2, none⟩ (.slice Ao25 t471.length co25))) Try.underlying25 Try.underlying5 Try.underlying9 (Kd.own_of_R (show Kd.R (Kd.int .u8) 5 (((w22.setCell ⟨gb475, 0, none⟩ (.int .i64 t469)).setCell ⟨gb475, 1, none⟩ (.int .i64 t470)).setCell ⟨gb475, 2, none⟩ (.slice Ao25 t471.length co25)) w.heap.size (fun k_ => (((True ∧ some k_ ≠ (.slice Ao16 t457.length co16 : Value).ownBlock) ∧ some k_ ≠ (.slice Ao20 t461.length co20 : Value).ownBlock) ∧ some k_ ≠ (v466 : Value).ownBlock)) (.slice Ao25 t471.length co25) t471 from (by (with_reducible repeat (first | apply Kd.R_alloc | apply Kd.R_drewN | apply Kd.R_drew)); exact (Kd.R_mono (Kd.R_far (p := ⟨gb475, 2, none⟩) (Kd.R_far (p := ⟨gb475, 1, none⟩) (Kd.R_far (p := ⟨gb475, 0, none⟩) (Kd.R_types HO473.out BK475.out (by decide)) (fun _ hk => hk.2) (.int .i64 t469)) (fun _ hk => hk.2) (.int .i64 t470)) (fun _ hk => hk.2) (.slice Ao25 t471.length co25)) (fun _ h_ => h_.1)))))))
                    (try have hcv43 := fun (n_ : Nat) => (own_string (P := Try.prog) (w := ((((w22.drewN n_).setCell ⟨gb475, 0, none⟩ (.int .i64 t469)).setCell ⟨gb475, 1, none⟩ (.int .i64 t470)).setCell ⟨gb475, 2, none⟩ (.slice Ao25 t471.length co25))) Try.underlying25 Try.underlying5 Try.underlying9 (Kd.own_of_R (show Kd.R (Kd.int .u8) 5 ((((w22.drewN n_).setCell ⟨gb475, 0, none⟩ (.int .i64 t469)).setCell ⟨gb475, 1, none⟩ (.int .i64 t470)).setCell ⟨gb475, 2, none⟩ (.slice Ao25 t471.length co25)) w.heap.size (fun k_ => (((True ∧ some k_ ≠ (.slice Ao16 t457.length co16 : Value).ownBlock) ∧ some k_ ≠ (.slice Ao20 t461.length co20 : Value).ownBlock) ∧ some k_ ≠ (v466 : Value).ownBlock)) (.slice Ao25 t471.length co25) t471 from (by (with_reducible repeat (first | apply Kd.R_alloc | apply Kd.R_drewN | apply Kd.R_drew)); exact (Kd.R_mono (Kd.R_far (p := ⟨gb475, 2, none⟩) (Kd.R_far (p := ⟨gb475, 1, none⟩) (Kd.R_far (p := ⟨gb475, 0, none⟩) (Kd.R_types HO473.out BK475.out (by decide)) (fun _ hk => hk.2) (.int .i64 t469)) (fun _ hk => hk.2) (.int .i64 t470)) (fun _ hk => hk.2) (.slice Ao25 t471.length co25)) (fun _ h_ => h_.1)))))))
                    (try have hcv44 := fun (n_ : Nat) => (own_string (P := Try.prog) (w := ((((w22.setCell ⟨gb475, 0, none⟩ (.int .i64 t469)).drewN n_).setCell ⟨gb475, 1, none⟩ (.int .i64 t470)).setCell ⟨gb475, 2, none⟩ (.slice Ao25 t471.length co25))) Try.underlying25 Try.underlying5 Try.underlying9 (Kd.own_of_R (show Kd.R (Kd.int .u8) 5 ((((w22.setCell ⟨gb475, 0, none⟩ (.int .i64 t469)).drewN n_).setCell ⟨gb475, 1, none⟩ (.int .i64 t470)).setCell ⟨gb475, 2, none⟩ (.slice Ao25 t471.length co25)) w.heap.size (fun k_ => (((True ∧ some k_ ≠ (.slice Ao16 t457.length co16 : Value).ownBlock) ∧ some k_ ≠ (.slice Ao20 t461.length co20 : Value).ownBlock) ∧ some k_ ≠ (v466 : Value).ownBlock)) (.slice Ao25 t471.length co25) t471 from (by (with_reducible repeat (first | apply Kd.R_alloc | apply Kd.R_drewN | apply Kd.R_drew)); exact (Kd.R_mono (Kd.R_far (p := ⟨gb475, 2, none⟩) (Kd.R_far (p := ⟨gb475, 1, none⟩) (Kd.R_far (p := ⟨gb475, 0, none⟩) (Kd.R_types HO473.out BK475.out (by decide)) (fun _ hk => hk.2) (.int .i64 t469)) (fun _ hk => hk.2) (.int .i64 t470)) (fun _ hk => hk.2) (.slice Ao25 t471.length co25)) (fun _ h_ => h_.1)))))))
                    (try have hcv45 := fun (n_ : Nat) => (own_string (P := Try.prog) (w := ((((w22.setCell ⟨gb475, 0, none⟩ (.int .i64 t469)).setCell ⟨gb475, 1, none⟩ (.int .i64 t470)).drewN n_).setCell ⟨gb475, 2, none⟩ (.slice Ao25 t471.length co25))) Try.underlying25 Try.underlying5 Try.underlying9 (Kd.own_of_R (show Kd.R (Kd.int .u8) 5 ((((w22.setCell ⟨gb475, 0, none⟩ (.int .i64 t469)).setCell ⟨gb475, 1, none⟩ (.int .i64 t470)).drewN n_).setCell ⟨gb475, 2, none⟩ (.slice Ao25 t471.length co25)) w.heap.size (fun k_ => (((True ∧ some k_ ≠ (.slice Ao16 t457.length co16 : Value).ownBlock) ∧ some k_ ≠ (.slice Ao20 t461.length co20 : Value).ownBlock) ∧ some k_ ≠ (v466 : Value).ownBlock)) (.slice Ao25 t471.length co25) t471 from (by (with_reducible repeat (first | apply Kd.R_alloc | apply Kd.R_drewN | apply Kd.R_drew)); exact (Kd.R_mono (Kd.R_far (p := ⟨gb475, 2, none⟩) (Kd.R_far (p := ⟨gb475, 1, none⟩) (Kd.R_far (p := ⟨gb475, 0, none⟩) (Kd.R_types HO473.out BK475.out (by decide)) (fun _ hk => hk.2) (.int .i64 t469)) (fun _ hk => hk.2) (.int .i64 t470)) (fun _ hk => hk.2) (.slice Ao25 t471.length co25)) (fun _ h_ => h_.1)))))))
                    (try have hcv46 := (own_string (P := Try.prog) (w := (((w22.setCell ⟨gb475, 0, none⟩ (.int .i64 t469)).setCell ⟨gb475, 1, none⟩ (.int .i64 t470)).setCell ⟨gb475, 2, none⟩ (.slice Ao25 t471.length co25))) Try.underlying25 Try.underlying5 Try.underlying9 (Kd.own_of_R (show Kd.R (Kd.int .u8) 5 (((w22.setCell ⟨gb475, 0, none⟩ (.int .i64 t469)).setCell ⟨gb475, 1, none⟩ (.int .i64 t470)).setCell ⟨gb475, 2, none⟩ (.slice Ao25 t471.length co25)) w.heap.size (fun k_ => (((True ∧ some k_ ≠ (.slice Ao20 t461.length co20 : Value).ownBlock) ∧ some k_ ≠ (v466 : Value).ownBlock) ∧ some k_ ≠ (.slice Ao25 t471.length co25 : Value).ownBlock)) (.slice Ao16 t457.length co16) t457 from (by (with_reducible repeat (first | apply Kd.R_alloc | apply Kd.R_drewN | apply Kd.R_drew)); exact (Kd.R_mono (Kd.R_far (p := ⟨gb475, 2, none⟩) (Kd.R_far (p := ⟨gb475, 1, none⟩) (Kd.R_far (p := ⟨gb475, 0, none⟩) (Kd.R_types HO459.out BK475.out (by decide)) (fun _ hk => hk.2) (.int .i64 t469)) (fun _ hk => hk.2) (.int .i64 t470)) (fun _ hk => hk.2) (.slice Ao25 t471.length co25)) (fun _ h_ => h_.1)))))))
                    (try have hcv47 := fun (n_ : Nat) => (own_string (P := Try.prog) (w := ((((w22.drewN n_).setCell ⟨gb475, 0, none⟩ (.int .i64 t469)).setCell ⟨gb475, 1, none⟩ (.int .i64 t470)).setCell ⟨gb475, 2, none⟩ (.slice Ao25 t471.length co25))) Try.underlying25 Try.underlying5 Try.underlying9 (Kd.own_of_R (show Kd.R (Kd.int .u8) 5 ((((w22.drewN n_).setCell ⟨gb475, 0, none⟩ (.int .i64 t469)).setCell ⟨gb475, 1, none⟩ (.int .i64 t470)).setCell ⟨gb475, 2, none⟩ (.slice Ao25 t471.length co25)) w.heap.size (fun k_ => (((True ∧ some k_ ≠ (.slice Ao20 t461.length co20 : Value).ownBlock) ∧ some k_ ≠ (v466 : Value).ownBlock) ∧ some k_ ≠ (.slice Ao25 t471.length co25 : Value).ownBlock)) (.slice Ao16 t457.length co16) t457 from (by (with_reducible repeat (first | apply Kd.R_alloc | apply Kd.R_drewN | apply Kd.R_drew)); exact (Kd.R_mono (Kd.R_far (p := ⟨gb475, 2, none⟩) (Kd.R_far (p := ⟨gb475, 1, none⟩) (Kd.R_far (p := ⟨gb475, 0, none⟩) (Kd.R_types HO459.out BK475.out (by decide)) (fun _ hk => hk.2) (.int .i64 t469)) (fun _ hk => hk.2) (.int .i64 t470)) (fun _ hk => hk.2) (.slice Ao25 t471.length co25)) (fun _ h_ => h_.1)))))))
                    (try have hcv48 := fun (n_ : Nat) => (own_string (P := Try.prog) (w := ((((w22.setCell ⟨gb475, 0, none⟩ (.int .i64 t469)).drewN n_).setCell ⟨gb475, 1, none⟩ (.int .i64 t470)).setCell ⟨gb475, 2, none⟩ (.slice Ao25 t471.length co25))) Try.underlying25 Try.underlying5 Try.underlying9 (Kd.own_of_R (show Kd.R (Kd.int .u8) 5 ((((w22.setCell ⟨gb475, 0, none⟩ (.int .i64 t469)).drewN n_).setCell ⟨gb475, 1, none⟩ (.int .i64 t470)).setCell ⟨gb475, 2, none⟩ (.slice Ao25 t471.length co25)) w.heap.size (fun k_ => (((True ∧ some k_ ≠ (.slice Ao20 t461.length co20 : Value).ownBlock) ∧ some k_ ≠ (v466 : Value).ownBlock) ∧ some k_ ≠ (.slice Ao25 t471.length co25 : Value).ownBlock)) (.slice Ao16 t457.length co16) t457 from (by (with_reducible repeat (first | apply Kd.R_alloc | apply Kd.R_drewN | apply Kd.R_drew)); exact (Kd.R_mono (Kd.R_far (p := ⟨gb475, 2, none⟩) (Kd.R_far (p := ⟨gb475, 1, none⟩) (Kd.R_far (p := ⟨gb475, 0, none⟩) (Kd.R_types HO459.out BK475.out (by decide)) (fun _ hk => hk.2) (.int .i64 t469)) (fun _ hk => hk.2) (.int .i64 t470)) (fun _ hk => hk.2) (.slice Ao25 t471.length co25)) (fun _ h_ => h_.1)))))))
                    (try have hcv49 := fun (n_ : Nat) => (own_string (P := Try.prog) (w := ((((w22.setCell ⟨gb475, 0, none⟩ (.int .i64 t469)).setCell ⟨gb475, 1, none⟩ (.int .i64 t470)).drewN n_).setCell ⟨gb475, 2, none⟩ (.slice Ao25 t471.length co25))) Try.underlying25 Try.underlying5 Try.underlying9 (Kd.own_of_R (show Kd.R (Kd.int .u8) 5 ((((w22.setCell ⟨gb475, 0, none⟩ (.int .i64 t469)).setCell ⟨gb475, 1, none⟩ (.int .i64 t470)).drewN n_).setCell ⟨gb475, 2, none⟩ (.slice Ao25 t471.length co25)) w.heap.size (fun k_ => (((True ∧ some k_ ≠ (.slice Ao20 t461.length co20 : Value).ownBlock) ∧ some k_ ≠ (v466 : Value).ownBlock) ∧ some k_ ≠ (.slice Ao25 t471.length co25 : Value).ownBlock)) (.slice Ao16 t457.length co16) t457 from (by (with_reducible repeat (first | apply Kd.R_alloc | apply Kd.R_drewN | apply Kd.R_drew)); exact (Kd.R_mono (Kd.R_far (p := ⟨gb475, 2, none⟩) (Kd.R_far (p := ⟨gb475, 1, none⟩) (Kd.R_far (p := ⟨gb475, 0, none⟩) (Kd.R_types HO459.out BK475.out (by decide)) (fun _ hk => hk.2) (.int .i64 t469)) (fun _ hk => hk.2) (.int .i64 t470)) (fun _ hk => hk.2) (.slice Ao25 t471.length co25)) (fun _ h_ => h_.1)))))))
                    go_wp2
                    go_meet
                    case rel => exact ⟨_, (((strOfNums t471).toList != (strOfNums t457).toList)), (by first | rfl | (simp; done) | (simp [*]; done)), H', ⟨by have := HJ2.out; first | omega | exact Nat.le_refl _⟩, ⟨by (with_reducible repeat (first | apply Kd.R_alloc | apply Kd.R_drewN | apply Kd.R_drew)); exact Kd.R_mono (Kd.R_far (p := ⟨gb475, 2, none⟩) (Kd.R_far (p := ⟨gb475, 1, none⟩) (Kd.R_far (p := ⟨gb475, 0, none⟩) (Kd.R_types HO463.out BK475.out (by decide)) (fun _ hk => hk.2) (.int .i64 t469)) (fun _ hk => hk.2) (.int .i64 t470)) (fun _ hk => hk.2) (.slice Ao25 t471.length co25)) (fun _ hk => ⟨hk.1.1.1.2, hk.1.2⟩)⟩, ⟨by (with_reducible repeat (first | apply Kd.R_alloc | apply Kd.R_drewN | apply Kd.R_drew)); exact Kd.R_mono (Kd.R_far (p := ⟨gb475, 2, none⟩) (Kd.R_far (p := ⟨gb475, 1, none⟩) (Kd.R_far (p := ⟨gb475, 0, none⟩) (Kd.R_types HO459.out BK475.out (by decide)) (fun _ hk => hk.2) (.int .i64 t469)) (fun _ hk => hk.2) (.int .i64 t470)) (fun _ hk => hk.2) (.slice Ao25 t471.length co25)) (fun _ hk => ⟨hk.1.1.1.2, hk.1.2⟩)⟩, ⟨by (with_reducible repeat (first | apply Kd.R_alloc | apply Kd.R_drewN | apply Kd.R_drew)); exact Kd.R_mono (Kd.R_far (p := ⟨gb475, 2, none⟩) (Kd.R_far (p := ⟨gb475, 1, none⟩) (Kd.R_far (p := ⟨gb475, 0, none⟩) (Kd.R_types HO473.out BK475.out (by decide)) (fun _ hk => hk.2) (.int .i64 t469)) (fun _ hk => hk.2) (.int .i64 t470)) (fun _ hk => hk.2) (.slice Ao25 t471.length co25)) (fun _ hk => ⟨hk.1.1.2, hk.1.1.1.2⟩)⟩, ⟨by (with_reducible repeat (first | refine blk_drewN ?_ _ | refine blk_drew ?_ | refine blk_alloc ?_ _)); refine blk_far ?_ NB460_475.out _; (with_reducible repeat (first | refine blk_drewN ?_ _ | refine blk_drew ?_ | refine blk_alloc ?_ _)); refine blk_far ?_ NB460_475.out _; (with_reducible repeat (first | refine blk_drewN ?_ _ | refine blk_drew ?_ | refine blk_alloc ?_ _)); refine blk_far ?_ NB460_475.out _; (with_reducible repeat (first | refine blk_drewN ?_ _ | refine blk_drew ?_ | refine blk_alloc ?_ _)); exact BK460.out⟩, ⟨by (with_reducible repeat (first | refine blk_drewN ?_ _ | refine blk_drew ?_ | refine blk_alloc ?_ _)); refine blk_put (cs := #[.int .i64 t469, .int .i64 t470, .slice none 0 0]) ?_ 2 _ rfl; (with_reducible repeat (first | refine blk_drewN ?_ _ | refine blk_drew ?_ | refine blk_alloc ?_ _)); refine blk_put (cs := #[.int .i64 t469, .int .i64 0, .slice none 0 0]) ?_ 1 _ rfl; (with_reducible repeat (first | refine blk_drewN ?_ _ | refine blk_drew ?_ | refine blk_alloc ?_ _)); refine blk_put (cs := #[.int .i64 0, .int .i64 0, .slice none 0 0]) ?_ 0 _ rfl; (with_reducible repeat (first | refine blk_drewN ?_ _ | refine blk_drew ?_ | refine blk_alloc ?_ _)); exact BK475.out⟩, ⟨by repeat (first | (with_reducible first | exact HB.out | apply below_alloc | apply pw_below_drewN | apply below_drew1 | refine below_set ?_ GE460.out | refine below_set ?_ GE475.out) | exact HB.out)⟩⟩
                  · rw [if_neg c30] at H
                    have c30b0 : (t470 == t456) = false := beq_eq_false_iff_ne.mpr c30
                    have c30b1 : (t470 != t456) = true := bne_iff_ne.mpr c30
                    have H' := Aside0.mk H
                    clear H
                    (try have hcv50 := (own_string (P := Try.prog) (w := (((w22.setCell ⟨gb475, 0, none⟩ (.int .i64 t469)).setCell ⟨gb475, 1, none⟩ (.int .i64 t470)).setCell ⟨gb475, 2, none⟩ (.slice Ao25 t471.length co25))) Try.underlying25 Try.underlying5 Try.underlying9 (Kd.own_of_R (show Kd.R (Kd.int .u8) 5 (((w22.setCell ⟨gb475, 0, none⟩ (.int .i64 t469)).setCell ⟨gb475, 1, none⟩ (.int .i64 t470)).setCell ⟨gb475, 2, none⟩ (.slice Ao25 t471.length co25)) w.heap.size (fun k_ => (((True ∧ some k_ ≠ (.slice Ao16 t457.length co16 : Value).ownBlock) ∧ some k_ ≠ (v466 : Value).ownBlock) ∧ some k_ ≠ (.slice Ao25 t471.length co25 : Value).ownBlock)) (.slice Ao20 t461.length co20) t461 from (by (with_reducible repeat (first | apply Kd.R_alloc | apply Kd.R_drewN | apply Kd.R_drew)); exact (Kd.R_mono (Kd.R_far (p := ⟨gb475, 2, none⟩) (Kd.R_far (p := ⟨gb475, 1, none⟩) (Kd.R_far (p := ⟨gb475, 0, none⟩) (Kd.R_types HO463.out BK475.out (by decide)) (fun _ hk => hk.2) (.int .i64 t469)) (fun _ hk => hk.2) (.int .i64 t470)) (fun _ hk => hk.2) (.slice Ao25 t471.length co25)) (fun _ h_ => h_.1)))))))
                    (try have hcv51 := fun (n_ : Nat) => (own_string (P := Try.prog) (w := ((((w22.drewN n_).setCell ⟨gb475, 0, none⟩ (.int .i64 t469)).setCell ⟨gb475, 1, none⟩ (.int .i64 t470)).setCell ⟨gb475, 2, none⟩ (.slice Ao25 t471.length co25))) Try.underlying25 Try.underlying5 Try.underlying9 (Kd.own_of_R (show Kd.R (Kd.int .u8) 5 ((((w22.drewN n_).setCell ⟨gb475, 0, none⟩ (.int .i64 t469)).setCell ⟨gb475, 1, none⟩ (.int .i64 t470)).setCell ⟨gb475, 2, none⟩ (.slice Ao25 t471.length co25)) w.heap.size (fun k_ => (((True ∧ some k_ ≠ (.slice Ao16 t457.length co16 : Value).ownBlock) ∧ some k_ ≠ (v466 : Value).ownBlock) ∧ some k_ ≠ (.slice Ao25 t471.length co25 : Value).ownBlock)) (.slice Ao20 t461.length co20) t461 from (by (with_reducible repeat (first | apply Kd.R_alloc | apply Kd.R_drewN | apply Kd.R_drew)); exact (Kd.R_mono (Kd.R_far (p := ⟨gb475, 2, none⟩) (Kd.R_far (p := ⟨gb475, 1, none⟩) (Kd.R_far (p := ⟨gb475, 0, none⟩) (Kd.R_types HO463.out BK475.out (by decide)) (fun _ hk => hk.2) (.int .i64 t469)) (fun _ hk => hk.2) (.int .i64 t470)) (fun _ hk => hk.2) (.slice Ao25 t471.length co25)) (fun _ h_ => h_.1)))))))
                    (try have hcv52 := fun (n_ : Nat) => (own_string (P := Try.prog) (w := ((((w22.setCell ⟨gb475, 0, none⟩ (.int .i64 t469)).drewN n_).setCell ⟨gb475, 1, none⟩ (.int .i64 t470)).setCell ⟨gb475, 2, none⟩ (.slice Ao25 t471.length co25))) Try.underlying25 Try.underlying5 Try.underlying9 (Kd.own_of_R (show Kd.R (Kd.int .u8) 5 ((((w22.setCell ⟨gb475, 0, none⟩ (.int .i64 t469)).drewN n_).setCell ⟨gb475, 1, none⟩ (.int .i64 t470)).setCell ⟨gb475, 2, none⟩ (.slice Ao25 t471.length co25)) w.heap.size (fun k_ => (((True ∧ some k_ ≠ (.slice Ao16 t457.length co16 : Value).ownBlock) ∧ some k_ ≠ (v466 : Value).ownBlock) ∧ some k_ ≠ (.slice Ao25 t471.length co25 : Value).ownBlock)) (.slice Ao20 t461.length co20) t461 from (by (with_reducible repeat (first | apply Kd.R_alloc | apply Kd.R_drewN | apply Kd.R_drew)); exact (Kd.R_mono (Kd.R_far (p := ⟨gb475, 2, none⟩) (Kd.R_far (p := ⟨gb475, 1, none⟩) (Kd.R_far (p := ⟨gb475, 0, none⟩) (Kd.R_types HO463.out BK475.out (by decide)) (fun _ hk => hk.2) (.int .i64 t469)) (fun _ hk => hk.2) (.int .i64 t470)) (fun _ hk => hk.2) (.slice Ao25 t471.length co25)) (fun _ h_ => h_.1)))))))
                    (try have hcv53 := fun (n_ : Nat) => (own_string (P := Try.prog) (w := ((((w22.setCell ⟨gb475, 0, none⟩ (.int .i64 t469)).setCell ⟨gb475, 1, none⟩ (.int .i64 t470)).drewN n_).setCell ⟨gb475, 2, none⟩ (.slice Ao25 t471.length co25))) Try.underlying25 Try.underlying5 Try.underlying9 (Kd.own_of_R (show Kd.R (Kd.int .u8) 5 ((((w22.setCell ⟨gb475, 0, none⟩ (.int .i64 t469)).setCell ⟨gb475, 1, none⟩ (.int .i64 t470)).drewN n_).setCell ⟨gb475, 2, none⟩ (.slice Ao25 t471.length co25)) w.heap.size (fun k_ => (((True ∧ some k_ ≠ (.slice Ao16 t457.length co16 : Value).ownBlock) ∧ some k_ ≠ (v466 : Value).ownBlock) ∧ some k_ ≠ (.slice Ao25 t471.length co25 : Value).ownBlock)) (.slice Ao20 t461.length co20) t461 from (by (with_reducible repeat (first | apply Kd.R_alloc | apply Kd.R_drewN | apply Kd.R_drew)); exact (Kd.R_mono (Kd.R_far (p := ⟨gb475, 2, none⟩) (Kd.R_far (p := ⟨gb475, 1, none⟩) (Kd.R_far (p := ⟨gb475, 0, none⟩) (Kd.R_types HO463.out BK475.out (by decide)) (fun _ hk => hk.2) (.int .i64 t469)) (fun _ hk => hk.2) (.int .i64 t470)) (fun _ hk => hk.2) (.slice Ao25 t471.length co25)) (fun _ h_ => h_.1)))))))
                    (try have hcv54 := (own_string (P := Try.prog) (w := (((w22.setCell ⟨gb475, 0, none⟩ (.int .i64 t469)).setCell ⟨gb475, 1, none⟩ (.int .i64 t470)).setCell ⟨gb475, 2, none⟩ (.slice Ao25 t471.length co25))) Try.underlying25 Try.underlying5 Try.underlying9 (Kd.own_of_R (show Kd.R (Kd.int .u8) 5 (((w22.setCell ⟨gb475, 0, none⟩ (.int .i64 t469)).setCell ⟨gb475, 1, none⟩ (.int .i64 t470)).setCell ⟨gb475, 2, none⟩ (.slice Ao25 t471.length co25)) w.heap.size (fun k_ => (((True ∧ some k_ ≠ (.slice Ao16 t457.length co16 : Value).ownBlock) ∧ some k_ ≠ (.slice Ao20 t461.length co20 : Value).ownBlock) ∧ some k_ ≠ (.slice Ao25 t471.length co25 : Value).ownBlock)) v466 t465 from (by (with_reducible repeat (first | apply Kd.R_alloc | apply Kd.R_drewN | apply Kd.R_drew)); exact (Kd.R_mono (Kd.R_far (p := ⟨gb475, 2, none⟩) (Kd.R_far (p := ⟨gb475, 1, none⟩) (Kd.R_far (p := ⟨gb475, 0, none⟩) (Kd.R_types HO467.out BK475.out (by decide)) (fun _ hk => hk.2) (.int .i64 t469)) (fun _ hk => hk.2) (.int .i64 t470)) (fun _ hk => hk.2) (.slice Ao25 t471.length co25)) (fun _ h_ => h_.1)))))))
                    (try have hcv55 := fun (n_ : Nat) => (own_string (P := Try.prog) (w := ((((w22.drewN n_).setCell ⟨gb475, 0, none⟩ (.int .i64 t469)).setCell ⟨gb475, 1, none⟩ (.int .i64 t470)).setCell ⟨gb475, 2, none⟩ (.slice Ao25 t471.length co25))) Try.underlying25 Try.underlying5 Try.underlying9 (Kd.own_of_R (show Kd.R (Kd.int .u8) 5 ((((w22.drewN n_).setCell ⟨gb475, 0, none⟩ (.int .i64 t469)).setCell ⟨gb475, 1, none⟩ (.int .i64 t470)).setCell ⟨gb475, 2, none⟩ (.slice Ao25 t471.length co25)) w.heap.size (fun k_ => (((True ∧ some k_ ≠ (.slice Ao16 t457.length co16 : Value).ownBlock) ∧ some k_ ≠ (.slice Ao20 t461.length co20 : Value).ownBlock) ∧ some k_ ≠ (.slice Ao25 t471.length co25 : Value).ownBlock)) v466 t465 from (by (with_reducible repeat (first | apply Kd.R_alloc | apply Kd.R_drewN | apply Kd.R_drew)); exact (Kd.R_mono (Kd.R_far (p := ⟨gb475, 2, none⟩) (Kd.R_far (p := ⟨gb475, 1, none⟩) (Kd.R_far (p := ⟨gb475, 0, none⟩) (Kd.R_types HO467.out BK475.out (by decide)) (fun _ hk => hk.2) (.int .i64 t469)) (fun _ hk => hk.2) (.int .i64 t470)) (fun _ hk => hk.2) (.slice Ao25 t471.length co25)) (fun _ h_ => h_.1)))))))
                    (try have hcv56 := fun (n_ : Nat) => (own_string (P := Try.prog) (w := ((((w22.setCell ⟨gb475, 0, none⟩ (.int .i64 t469)).drewN n_).setCell ⟨gb475, 1, none⟩ (.int .i64 t470)).setCell ⟨gb475, 2, none⟩ (.slice Ao25 t471.length co25))) Try.underlying25 Try.underlying5 Try.underlying9 (Kd.own_of_R (show Kd.R (Kd.int .u8) 5 ((((w22.setCell ⟨gb475, 0, none⟩ (.int .i64 t469)).drewN n_).setCell ⟨gb475, 1, none⟩ (.int .i64 t470)).setCell ⟨gb475, 2, none⟩ (.slice Ao25 t471.length co25)) w.heap.size (fun k_ => (((True ∧ some k_ ≠ (.slice Ao16 t457.length co16 : Value).ownBlock) ∧ some k_ ≠ (.slice Ao20 t461.length co20 : Value).ownBlock) ∧ some k_ ≠ (.slice Ao25 t471.length co25 : Value).ownBlock)) v466 t465 from (by (with_reducible repeat (first | apply Kd.R_alloc | apply Kd.R_drewN | apply Kd.R_drew)); exact (Kd.R_mono (Kd.R_far (p := ⟨gb475, 2, none⟩) (Kd.R_far (p := ⟨gb475, 1, none⟩) (Kd.R_far (p := ⟨gb475, 0, none⟩) (Kd.R_types HO467.out BK475.out (by decide)) (fun _ hk => hk.2) (.int .i64 t469)) (fun _ hk => hk.2) (.int .i64 t470)) (fun _ hk => hk.2) (.slice Ao25 t471.length co25)) (fun _ h_ => h_.1)))))))
                    (try have hcv57 := fun (n_ : Nat) => (own_string (P := Try.prog) (w := ((((w22.setCell ⟨gb475, 0, none⟩ (.int .i64 t469)).setCell ⟨gb475, 1, none⟩ (.int .i64 t470)).drewN n_).setCell ⟨gb475, 2, none⟩ (.slice Ao25 t471.length co25))) Try.underlying25 Try.underlying5 Try.underlying9 (Kd.own_of_R (show Kd.R (Kd.int .u8) 5 ((((w22.setCell ⟨gb475, 0, none⟩ (.int .i64 t469)).setCell ⟨gb475, 1, none⟩ (.int .i64 t470)).drewN n_).setCell ⟨gb475, 2, none⟩ (.slice Ao25 t471.length co25)) w.heap.size (fun k_ => (((True ∧ some k_ ≠ (.slice Ao16 t457.length co16 : Value).ownBlock) ∧ some k_ ≠ (.slice Ao20 t461.length co20 : Value).ownBlock) ∧ some k_ ≠ (.slice Ao25 t471.length co25 : Value).ownBlock)) v466 t465 from (by (with_reducible repeat (first | apply Kd.R_alloc | apply Kd.R_drewN | apply Kd.R_drew)); exact (Kd.R_mono (Kd.R_far (p := ⟨gb475, 2, none⟩) (Kd.R_far (p := ⟨gb475, 1, none⟩) (Kd.R_far (p := ⟨gb475, 0, none⟩) (Kd.R_types HO467.out BK475.out (by decide)) (fun _ hk => hk.2) (.int .i64 t469)) (fun _ hk => hk.2) (.int .i64 t470)) (fun _ hk => hk.2) (.slice Ao25 t471.length co25)) (fun _ h_ => h_.1)))))))
                    have hnb58 := NB475_460.out
                    have hnc58 := NB460_475.out
                    have hcz59_0 : w22.cell? ⟨gb475, 0, none⟩ = some (.int .i64 0) := (blk_cell BK475.out 0).trans rfl
                    have hcz59_1 : w22.cell? ⟨gb475, 1, none⟩ = some (.int .i64 0) := (blk_cell BK475.out 1).trans rfl
                    have hcz59_2 : w22.cell? ⟨gb475, 2, none⟩ = some (.slice none 0 0) := (blk_cell BK475.out 2).trans rfl
                    have hfz59_0 := blk_frozen BK475.out 0
                    have hfz59_1 := blk_frozen BK475.out 1
                    have hfz59_2 := blk_frozen BK475.out 2
                    have hcz60_0 : w22.cell? ⟨gb460, 0, none⟩ = some (.int .i64 t455) := (blk_cell BK460.out 0).trans rfl
                    have hcz60_1 : w22.cell? ⟨gb460, 1, none⟩ = some (.int .i64 t456) := (blk_cell BK460.out 1).trans rfl
                    have hcz60_2 : w22.cell? ⟨gb460, 2, none⟩ = some (.slice Ao16 t457.length co16) := (blk_cell BK460.out 2).trans rfl
                    have hfz60_0 := blk_frozen BK460.out 0
                    have hfz60_1 := blk_frozen BK460.out 1
                    have hfz60_2 := blk_frozen BK460.out 2
                    go_wp2
                    go_meet
                    case rel => exact ⟨_, (true), (by first | rfl | (simp; done) | (simp [*]; done)), H', ⟨by have := HJ2.out; first | omega | exact Nat.le_refl _⟩, ⟨by (with_reducible repeat (first | apply Kd.R_alloc | apply Kd.R_drewN | apply Kd.R_drew)); exact Kd.R_mono (Kd.R_far (p := ⟨gb475, 2, none⟩) (Kd.R_far (p := ⟨gb475, 1, none⟩) (Kd.R_far (p := ⟨gb475, 0, none⟩) (Kd.R_types HO463.out BK475.out (by decide)) (fun _ hk => hk.2) (.int .i64 t469)) (fun _ hk => hk.2) (.int .i64 t470)) (fun _ hk => hk.2) (.slice Ao25 t471.length co25)) (fun _ hk => ⟨hk.1.1.1.2, hk.1.2⟩)⟩, ⟨by (with_reducible repeat (first | apply Kd.R_alloc | apply Kd.R_drewN | apply Kd.R_drew)); exact Kd.R_mono (Kd.R_far (p := ⟨gb475, 2, none⟩) (Kd.R_far (p := ⟨gb475, 1, none⟩) (Kd.R_far (p := ⟨gb475, 0, none⟩) (Kd.R_types HO459.out BK475.out (by decide)) (fun _ hk => hk.2) (.int .i64 t469)) (fun _ hk => hk.2) (.int .i64 t470)) (fun _ hk => hk.2) (.slice Ao25 t471.length co25)) (fun _ hk => ⟨hk.1.1.1.2, hk.1.2⟩)⟩, ⟨by (with_reducible repeat (first | apply Kd.R_alloc | apply Kd.R_drewN | apply Kd.R_drew)); exact Kd.R_mono (Kd.R_far (p := ⟨gb475, 2, none⟩) (Kd.R_far (p := ⟨gb475, 1, none⟩) (Kd.R_far (p := ⟨gb475, 0, none⟩) (Kd.R_types HO473.out BK475.out (by decide)) (fun _ hk => hk.2) (.int .i64 t469)) (fun _ hk => hk.2) (.int .i64 t470)) (fun _ hk => hk.2) (.slice Ao25 t471.length co25)) (fun _ hk => ⟨hk.1.1.2, hk.1.1.1.2⟩)⟩, ⟨by (with_reducible repeat (first | refine blk_drewN ?_ _ | refine blk_drew ?_ | refine blk_alloc ?_ _)); refine blk_far ?_ NB460_475.out _; (with_reducible repeat (first | refine blk_drewN ?_ _ | refine blk_drew ?_ | refine blk_alloc ?_ _)); refine blk_far ?_ NB460_475.out _; (with_reducible repeat (first | refine blk_drewN ?_ _ | refine blk_drew ?_ | refine blk_alloc ?_ _)); refine blk_far ?_ NB460_475.out _; (with_reducible repeat (first | refine blk_drewN ?_ _ | refine blk_drew ?_ | refine blk_alloc ?_ _)); exact BK460.out⟩, ⟨by (with_reducible repeat (first | refine blk_drewN ?_ _ | refine blk_drew ?_ | refine blk_alloc ?_ _)); refine blk_put (cs := #[.int .i64 t469, .int .i64 t470, .slice none 0 0]) ?_ 2 _ rfl; (with_reducible repeat (first | refine blk_drewN ?_ _ | refine blk_drew ?_ | refine blk_alloc ?_ _)); refine blk_put (cs := #[.int .i64 t469, .int .i64 0, .slice none 0 0]) ?_ 1 _ rfl; (with_reducible repeat (first | refine blk_drewN ?_ _ | refine blk_drew ?_ | refine blk_alloc ?_ _)); refine blk_put (cs := #[.int .i64 0, .int .i64 0, .slice none 0 0]) ?_ 0 _ rfl; (with_reducible repeat (first | refine blk_drewN ?_ _ | refine blk_drew ?_ | refine blk_alloc ?_ _)); exact BK475.out⟩, ⟨by repeat (first | (with_reducible first | exact HB.out | apply below_alloc | apply pw_below_drewN | apply below_drew1 | refine below_set ?_ GE460.out | refine below_set ?_ GE475.out) | exact HB.out)⟩⟩
                · rw [if_neg c29] at H
                  have c29b0 : (t469 == t455) = false := beq_eq_false_iff_ne.mpr c29
                  have c29b1 : (t469 != t455) = true := bne_iff_ne.mpr c29
                  have H' := Aside0.mk H
                  clear H
                  (try have hcv61 := (own_string (P := Try.prog) (w := (((w22.setCell ⟨gb475, 0, none⟩ (.int .i64 t469)).setCell ⟨gb475, 1, none⟩ (.int .i64 t470)).setCell ⟨gb475, 2, none⟩ (.slice Ao25 t471.length co25))) Try.underlying25 Try.underlying5 Try.underlying9 (Kd.own_of_R (show Kd.R (Kd.int .u8) 5 (((w22.setCell ⟨gb475, 0, none⟩ (.int .i64 t469)).setCell ⟨gb475, 1, none⟩ (.int .i64 t470)).setCell ⟨gb475, 2, none⟩ (.slice Ao25 t471.length co25)) w.heap.size (fun k_ => (((True ∧ some k_ ≠ (.slice Ao16 t457.length co16 : Value).ownBlock) ∧ some k_ ≠ (v466 : Value).ownBlock) ∧ some k_ ≠ (.slice Ao25 t471.length co25 : Value).ownBlock)) (.slice Ao20 t461.length co20) t461 from (by (with_reducible repeat (first | apply Kd.R_alloc | apply Kd.R_drewN | apply Kd.R_drew)); exact (Kd.R_mono (Kd.R_far (p := ⟨gb475, 2, none⟩) (Kd.R_far (p := ⟨gb475, 1, none⟩) (Kd.R_far (p := ⟨gb475, 0, none⟩) (Kd.R_types HO463.out BK475.out (by decide)) (fun _ hk => hk.2) (.int .i64 t469)) (fun _ hk => hk.2) (.int .i64 t470)) (fun _ hk => hk.2) (.slice Ao25 t471.length co25)) (fun _ h_ => h_.1)))))))
                  (try have hcv62 := fun (n_ : Nat) => (own_string (P := Try.prog) (w := ((((w22.drewN n_).setCell ⟨gb475, 0, none⟩ (.int .i64 t469)).setCell ⟨gb475, 1, none⟩ (.int .i64 t470)).setCell ⟨gb475, 2, none⟩ (.slice Ao25 t471.length co25))) Try.underlying25 Try.underlying5 Try.underlying9 (Kd.own_of_R (show Kd.R (Kd.int .u8) 5 ((((w22.drewN n_).setCell ⟨gb475, 0, none⟩ (.int .i64 t469)).setCell ⟨gb475, 1, none⟩ (.int .i64 t470)).setCell ⟨gb475, 2, none⟩ (.slice Ao25 t471.length co25)) w.heap.size (fun k_ => (((True ∧ some k_ ≠ (.slice Ao16 t457.length co16 : Value).ownBlock) ∧ some k_ ≠ (v466 : Value).ownBlock) ∧ some k_ ≠ (.slice Ao25 t471.length co25 : Value).ownBlock)) (.slice Ao20 t461.length co20) t461 from (by (with_reducible repeat (first | apply Kd.R_alloc | apply Kd.R_drewN | apply Kd.R_drew)); exact (Kd.R_mono (Kd.R_far (p := ⟨gb475, 2, none⟩) (Kd.R_far (p := ⟨gb475, 1, none⟩) (Kd.R_far (p := ⟨gb475, 0, none⟩) (Kd.R_types HO463.out BK475.out (by decide)) (fun _ hk => hk.2) (.int .i64 t469)) (fun _ hk => hk.2) (.int .i64 t470)) (fun _ hk => hk.2) (.slice Ao25 t471.length co25)) (fun _ h_ => h_.1)))))))
                  (try have hcv63 := fun (n_ : Nat) => (own_string (P := Try.prog) (w := ((((w22.setCell ⟨gb475, 0, none⟩ (.int .i64 t469)).drewN n_).setCell ⟨gb475, 1, none⟩ (.int .i64 t470)).setCell ⟨gb475, 2, none⟩ (.slice Ao25 t471.length co25))) Try.underlying25 Try.underlying5 Try.underlying9 (Kd.own_of_R (show Kd.R (Kd.int .u8) 5 ((((w22.setCell ⟨gb475, 0, none⟩ (.int .i64 t469)).drewN n_).setCell ⟨gb475, 1, none⟩ (.int .i64 t470)).setCell ⟨gb475, 2, none⟩ (.slice Ao25 t471.length co25)) w.heap.size (fun k_ => (((True ∧ some k_ ≠ (.slice Ao16 t457.length co16 : Value).ownBlock) ∧ some k_ ≠ (v466 : Value).ownBlock) ∧ some k_ ≠ (.slice Ao25 t471.length co25 : Value).ownBlock)) (.slice Ao20 t461.length co20) t461 from (by (with_reducible repeat (first | apply Kd.R_alloc | apply Kd.R_drewN | apply Kd.R_drew)); exact (Kd.R_mono (Kd.R_far (p := ⟨gb475, 2, none⟩) (Kd.R_far (p := ⟨gb475, 1, none⟩) (Kd.R_far (p := ⟨gb475, 0, none⟩) (Kd.R_types HO463.out BK475.out (by decide)) (fun _ hk => hk.2) (.int .i64 t469)) (fun _ hk => hk.2) (.int .i64 t470)) (fun _ hk => hk.2) (.slice Ao25 t471.length co25)) (fun _ h_ => h_.1)))))))
                  (try have hcv64 := fun (n_ : Nat) => (own_string (P := Try.prog) (w := ((((w22.setCell ⟨gb475, 0, none⟩ (.int .i64 t469)).setCell ⟨gb475, 1, none⟩ (.int .i64 t470)).drewN n_).setCell ⟨gb475, 2, none⟩ (.slice Ao25 t471.length co25))) Try.underlying25 Try.underlying5 Try.underlying9 (Kd.own_of_R (show Kd.R (Kd.int .u8) 5 ((((w22.setCell ⟨gb475, 0, none⟩ (.int .i64 t469)).setCell ⟨gb475, 1, none⟩ (.int .i64 t470)).drewN n_).setCell ⟨gb475, 2, none⟩ (.slice Ao25 t471.length co25)) w.heap.size (fun k_ => (((True ∧ some k_ ≠ (.slice Ao16 t457.length co16 : Value).ownBlock) ∧ some k_ ≠ (v466 : Value).ownBlock) ∧ some k_ ≠ (.slice Ao25 t471.length co25 : Value).ownBlock)) (.slice Ao20 t461.length co20) t461 from (by (with_reducible repeat (first | apply Kd.R_alloc | apply Kd.R_drewN | apply Kd.R_drew)); exact (Kd.R_mono (Kd.R_far (p := ⟨gb475, 2, none⟩) (Kd.R_far (p := ⟨gb475, 1, none⟩) (Kd.R_far (p := ⟨gb475, 0, none⟩) (Kd.R_types HO463.out BK475.out (by decide)) (fun _ hk => hk.2) (.int .i64 t469)) (fun _ hk => hk.2) (.int .i64 t470)) (fun _ hk => hk.2) (.slice Ao25 t471.length co25)) (fun _ h_ => h_.1)))))))
                  (try have hcv65 := (own_string (P := Try.prog) (w := (((w22.setCell ⟨gb475, 0, none⟩ (.int .i64 t469)).setCell ⟨gb475, 1, none⟩ (.int .i64 t470)).setCell ⟨gb475, 2, none⟩ (.slice Ao25 t471.length co25))) Try.underlying25 Try.underlying5 Try.underlying9 (Kd.own_of_R (show Kd.R (Kd.int .u8) 5 (((w22.setCell ⟨gb475, 0, none⟩ (.int .i64 t469)).setCell ⟨gb475, 1, none⟩ (.int .i64 t470)).setCell ⟨gb475, 2, none⟩ (.slice Ao25 t471.length co25)) w.heap.size (fun k_ => (((True ∧ some k_ ≠ (.slice Ao16 t457.length co16 : Value).ownBlock) ∧ some k_ ≠ (.slice Ao20 t461.length co20 : Value).ownBlock) ∧ some k_ ≠ (.slice Ao25 t471.length co25 : Value).ownBlock)) v466 t465 from (by (with_reducible repeat (first | apply Kd.R_alloc | apply Kd.R_drewN | apply Kd.R_drew)); exact (Kd.R_mono (Kd.R_far (p := ⟨gb475, 2, none⟩) (Kd.R_far (p := ⟨gb475, 1, none⟩) (Kd.R_far (p := ⟨gb475, 0, none⟩) (Kd.R_types HO467.out BK475.out (by decide)) (fun _ hk => hk.2) (.int .i64 t469)) (fun _ hk => hk.2) (.int .i64 t470)) (fun _ hk => hk.2) (.slice Ao25 t471.length co25)) (fun _ h_ => h_.1)))))))
                  (try have hcv66 := fun (n_ : Nat) => (own_string (P := Try.prog) (w := ((((w22.drewN n_).setCell ⟨gb475, 0, none⟩ (.int .i64 t469)).setCell ⟨gb475, 1, none⟩ (.int .i64 t470)).setCell ⟨gb475, 2, none⟩ (.slice Ao25 t471.length co25))) Try.underlying25 Try.underlying5 Try.underlying9 (Kd.own_of_R (show Kd.R (Kd.int .u8) 5 ((((w22.drewN n_).setCell ⟨gb475, 0, none⟩ (.int .i64 t469)).setCell ⟨gb475, 1, none⟩ (.int .i64 t470)).setCell ⟨gb475, 2, none⟩ (.slice Ao25 t471.length co25)) w.heap.size (fun k_ => (((True ∧ some k_ ≠ (.slice Ao16 t457.length co16 : Value).ownBlock) ∧ some k_ ≠ (.slice Ao20 t461.length co20 : Value).ownBlock) ∧ some k_ ≠ (.slice Ao25 t471.length co25 : Value).ownBlock)) v466 t465 from (by (with_reducible repeat (first | apply Kd.R_alloc | apply Kd.R_drewN | apply Kd.R_drew)); exact (Kd.R_mono (Kd.R_far (p := ⟨gb475, 2, none⟩) (Kd.R_far (p := ⟨gb475, 1, none⟩) (Kd.R_far (p := ⟨gb475, 0, none⟩) (Kd.R_types HO467.out BK475.out (by decide)) (fun _ hk => hk.2) (.int .i64 t469)) (fun _ hk => hk.2) (.int .i64 t470)) (fun _ hk => hk.2) (.slice Ao25 t471.length co25)) (fun _ h_ => h_.1)))))))
                  (try have hcv67 := fun (n_ : Nat) => (own_string (P := Try.prog) (w := ((((w22.setCell ⟨gb475, 0, none⟩ (.int .i64 t469)).drewN n_).setCell ⟨gb475, 1, none⟩ (.int .i64 t470)).setCell ⟨gb475, 2, none⟩ (.slice Ao25 t471.length co25))) Try.underlying25 Try.underlying5 Try.underlying9 (Kd.own_of_R (show Kd.R (Kd.int .u8) 5 ((((w22.setCell ⟨gb475, 0, none⟩ (.int .i64 t469)).drewN n_).setCell ⟨gb475, 1, none⟩ (.int .i64 t470)).setCell ⟨gb475, 2, none⟩ (.slice Ao25 t471.length co25)) w.heap.size (fun k_ => (((True ∧ some k_ ≠ (.slice Ao16 t457.length co16 : Value).ownBlock) ∧ some k_ ≠ (.slice Ao20 t461.length co20 : Value).ownBlock) ∧ some k_ ≠ (.slice Ao25 t471.length co25 : Value).ownBlock)) v466 t465 from (by (with_reducible repeat (first | apply Kd.R_alloc | apply Kd.R_drewN | apply Kd.R_drew)); exact (Kd.R_mono (Kd.R_far (p := ⟨gb475, 2, none⟩) (Kd.R_far (p := ⟨gb475, 1, none⟩) (Kd.R_far (p := ⟨gb475, 0, none⟩) (Kd.R_types HO467.out BK475.out (by decide)) (fun _ hk => hk.2) (.int .i64 t469)) (fun _ hk => hk.2) (.int .i64 t470)) (fun _ hk => hk.2) (.slice Ao25 t471.length co25)) (fun _ h_ => h_.1)))))))
                  (try have hcv68 := fun (n_ : Nat) => (own_string (P := Try.prog) (w := ((((w22.setCell ⟨gb475, 0, none⟩ (.int .i64 t469)).setCell ⟨gb475, 1, none⟩ (.int .i64 t470)).drewN n_).setCell ⟨gb475, 2, none⟩ (.slice Ao25 t471.length co25))) Try.underlying25 Try.underlying5 Try.underlying9 (Kd.own_of_R (show Kd.R (Kd.int .u8) 5 ((((w22.setCell ⟨gb475, 0, none⟩ (.int .i64 t469)).setCell ⟨gb475, 1, none⟩ (.int .i64 t470)).drewN n_).setCell ⟨gb475, 2, none⟩ (.slice Ao25 t471.length co25)) w.heap.size (fun k_ => (((True ∧ some k_ ≠ (.slice Ao16 t457.length co16 : Value).ownBlock) ∧ some k_ ≠ (.slice Ao20 t461.length co20 : Value).ownBlock) ∧ some k_ ≠ (.slice Ao25 t471.length co25 : Value).ownBlock)) v466 t465 from (by (with_reducible repeat (first | apply Kd.R_alloc | apply Kd.R_drewN | apply Kd.R_drew)); exact (Kd.R_mono (Kd.R_far (p := ⟨gb475, 2, none⟩) (Kd.R_far (p := ⟨gb475, 1, none⟩) (Kd.R_far (p := ⟨gb475, 0, none⟩) (Kd.R_types HO467.out BK475.out (by decide)) (fun _ hk => hk.2) (.int .i64 t469)) (fun _ hk => hk.2) (.int .i64 t470)) (fun _ hk => hk.2) (.slice Ao25 t471.length co25)) (fun _ h_ => h_.1)))))))
                  have hnb69 := NB475_460.out
                  have hnc69 := NB460_475.out
                  have hcz70_0 : w22.cell? ⟨gb475, 0, none⟩ = some (.int .i64 0) := (blk_cell BK475.out 0).trans rfl
                  have hcz70_1 : w22.cell? ⟨gb475, 1, none⟩ = some (.int .i64 0) := (blk_cell BK475.out 1).trans rfl
                  have hcz70_2 : w22.cell? ⟨gb475, 2, none⟩ = some (.slice none 0 0) := (blk_cell BK475.out 2).trans rfl
                  have hfz70_0 := blk_frozen BK475.out 0
                  have hfz70_1 := blk_frozen BK475.out 1
                  have hfz70_2 := blk_frozen BK475.out 2
                  have hcz71_0 : w22.cell? ⟨gb460, 0, none⟩ = some (.int .i64 t455) := (blk_cell BK460.out 0).trans rfl
                  have hcz71_1 : w22.cell? ⟨gb460, 1, none⟩ = some (.int .i64 t456) := (blk_cell BK460.out 1).trans rfl
                  have hcz71_2 : w22.cell? ⟨gb460, 2, none⟩ = some (.slice Ao16 t457.length co16) := (blk_cell BK460.out 2).trans rfl
                  have hfz71_0 := blk_frozen BK460.out 0
                  have hfz71_1 := blk_frozen BK460.out 1
                  have hfz71_2 := blk_frozen BK460.out 2
                  go_wp2
                  go_meet
                  case rel => exact ⟨_, (true), (by first | rfl | (simp; done) | (simp [*]; done)), H', ⟨by have := HJ2.out; first | omega | exact Nat.le_refl _⟩, ⟨by (with_reducible repeat (first | apply Kd.R_alloc | apply Kd.R_drewN | apply Kd.R_drew)); exact Kd.R_mono (Kd.R_far (p := ⟨gb475, 2, none⟩) (Kd.R_far (p := ⟨gb475, 1, none⟩) (Kd.R_far (p := ⟨gb475, 0, none⟩) (Kd.R_types HO463.out BK475.out (by decide)) (fun _ hk => hk.2) (.int .i64 t469)) (fun _ hk => hk.2) (.int .i64 t470)) (fun _ hk => hk.2) (.slice Ao25 t471.length co25)) (fun _ hk => ⟨hk.1.1.1.2, hk.1.2⟩)⟩, ⟨by (with_reducible repeat (first | apply Kd.R_alloc | apply Kd.R_drewN | apply Kd.R_drew)); exact Kd.R_mono (Kd.R_far (p := ⟨gb475, 2, none⟩) (Kd.R_far (p := ⟨gb475, 1, none⟩) (Kd.R_far (p := ⟨gb475, 0, none⟩) (Kd.R_types HO459.out BK475.out (by decide)) (fun _ hk => hk.2) (.int .i64 t469)) (fun _ hk => hk.2) (.int .i64 t470)) (fun _ hk => hk.2) (.slice Ao25 t471.length co25)) (fun _ hk => ⟨hk.1.1.1.2, hk.1.2⟩)⟩, ⟨by (with_reducible repeat (first | apply Kd.R_alloc | apply Kd.R_drewN | apply Kd.R_drew)); exact Kd.R_mono (Kd.R_far (p := ⟨gb475, 2, none⟩) (Kd.R_far (p := ⟨gb475, 1, none⟩) (Kd.R_far (p := ⟨gb475, 0, none⟩) (Kd.R_types HO473.out BK475.out (by decide)) (fun _ hk => hk.2) (.int .i64 t469)) (fun _ hk => hk.2) (.int .i64 t470)) (fun _ hk => hk.2) (.slice Ao25 t471.length co25)) (fun _ hk => ⟨hk.1.1.2, hk.1.1.1.2⟩)⟩, ⟨by (with_reducible repeat (first | refine blk_drewN ?_ _ | refine blk_drew ?_ | refine blk_alloc ?_ _)); refine blk_far ?_ NB460_475.out _; (with_reducible repeat (first | refine blk_drewN ?_ _ | refine blk_drew ?_ | refine blk_alloc ?_ _)); refine blk_far ?_ NB460_475.out _; (with_reducible repeat (first | refine blk_drewN ?_ _ | refine blk_drew ?_ | refine blk_alloc ?_ _)); refine blk_far ?_ NB460_475.out _; (with_reducible repeat (first | refine blk_drewN ?_ _ | refine blk_drew ?_ | refine blk_alloc ?_ _)); exact BK460.out⟩, ⟨by (with_reducible repeat (first | refine blk_drewN ?_ _ | refine blk_drew ?_ | refine blk_alloc ?_ _)); refine blk_put (cs := #[.int .i64 t469, .int .i64 t470, .slice none 0 0]) ?_ 2 _ rfl; (with_reducible repeat (first | refine blk_drewN ?_ _ | refine blk_drew ?_ | refine blk_alloc ?_ _)); refine blk_put (cs := #[.int .i64 t469, .int .i64 0, .slice none 0 0]) ?_ 1 _ rfl; (with_reducible repeat (first | refine blk_drewN ?_ _ | refine blk_drew ?_ | refine blk_alloc ?_ _)); refine blk_put (cs := #[.int .i64 0, .int .i64 0, .slice none 0 0]) ?_ 0 _ rfl; (with_reducible repeat (first | refine blk_drewN ?_ _ | refine blk_drew ?_ | refine blk_alloc ?_ _)); exact BK475.out⟩, ⟨by repeat (first | (with_reducible first | exact HB.out | apply below_alloc | apply pw_below_drewN | apply below_drew1 | refine below_set ?_ GE460.out | refine below_set ?_ GE475.out) | exact HB.out)⟩⟩
              · rw [if_neg c28] at H
                have c28b0 : ((strOfNums t461).toList == (strOfNums t465).toList) = false := beq_eq_false_iff_ne.mpr c28
                have c28b1 : ((strOfNums t461).toList != (strOfNums t465).toList) = true := bne_iff_ne.mpr c28
                have H' := Aside0.mk H
                clear H
                (try have hcv72 := (own_string (P := Try.prog) (w := (((w22.setCell ⟨gb475, 0, none⟩ (.int .i64 t469)).setCell ⟨gb475, 1, none⟩ (.int .i64 t470)).setCell ⟨gb475, 2, none⟩ (.slice Ao25 t471.length co25))) Try.underlying25 Try.underlying5 Try.underlying9 (Kd.own_of_R (show Kd.R (Kd.int .u8) 5 (((w22.setCell ⟨gb475, 0, none⟩ (.int .i64 t469)).setCell ⟨gb475, 1, none⟩ (.int .i64 t470)).setCell ⟨gb475, 2, none⟩ (.slice Ao25 t471.length co25)) w.heap.size (fun k_ => (((True ∧ some k_ ≠ (.slice Ao16 t457.length co16 : Value).ownBlock) ∧ some k_ ≠ (v466 : Value).ownBlock) ∧ some k_ ≠ (.slice Ao25 t471.length co25 : Value).ownBlock)) (.slice Ao20 t461.length co20) t461 from (by (with_reducible repeat (first | apply Kd.R_alloc | apply Kd.R_drewN | apply Kd.R_drew)); exact (Kd.R_mono (Kd.R_far (p := ⟨gb475, 2, none⟩) (Kd.R_far (p := ⟨gb475, 1, none⟩) (Kd.R_far (p := ⟨gb475, 0, none⟩) (Kd.R_types HO463.out BK475.out (by decide)) (fun _ hk => hk.2) (.int .i64 t469)) (fun _ hk => hk.2) (.int .i64 t470)) (fun _ hk => hk.2) (.slice Ao25 t471.length co25)) (fun _ h_ => h_.1)))))))
                (try have hcv73 := fun (n_ : Nat) => (own_string (P := Try.prog) (w := ((((w22.drewN n_).setCell ⟨gb475, 0, none⟩ (.int .i64 t469)).setCell ⟨gb475, 1, none⟩ (.int .i64 t470)).setCell ⟨gb475, 2, none⟩ (.slice Ao25 t471.length co25))) Try.underlying25 Try.underlying5 Try.underlying9 (Kd.own_of_R (show Kd.R (Kd.int .u8) 5 ((((w22.drewN n_).setCell ⟨gb475, 0, none⟩ (.int .i64 t469)).setCell ⟨gb475, 1, none⟩ (.int .i64 t470)).setCell ⟨gb475, 2, none⟩ (.slice Ao25 t471.length co25)) w.heap.size (fun k_ => (((True ∧ some k_ ≠ (.slice Ao16 t457.length co16 : Value).ownBlock) ∧ some k_ ≠ (v466 : Value).ownBlock) ∧ some k_ ≠ (.slice Ao25 t471.length co25 : Value).ownBlock)) (.slice Ao20 t461.length co20) t461 from (by (with_reducible repeat (first | apply Kd.R_alloc | apply Kd.R_drewN | apply Kd.R_drew)); exact (Kd.R_mono (Kd.R_far (p := ⟨gb475, 2, none⟩) (Kd.R_far (p := ⟨gb475, 1, none⟩) (Kd.R_far (p := ⟨gb475, 0, none⟩) (Kd.R_types HO463.out BK475.out (by decide)) (fun _ hk => hk.2) (.int .i64 t469)) (fun _ hk => hk.2) (.int .i64 t470)) (fun _ hk => hk.2) (.slice Ao25 t471.length co25)) (fun _ h_ => h_.1)))))))
                (try have hcv74 := fun (n_ : Nat) => (own_string (P := Try.prog) (w := ((((w22.setCell ⟨gb475, 0, none⟩ (.int .i64 t469)).drewN n_).setCell ⟨gb475, 1, none⟩ (.int .i64 t470)).setCell ⟨gb475, 2, none⟩ (.slice Ao25 t471.length co25))) Try.underlying25 Try.underlying5 Try.underlying9 (Kd.own_of_R (show Kd.R (Kd.int .u8) 5 ((((w22.setCell ⟨gb475, 0, none⟩ (.int .i64 t469)).drewN n_).setCell ⟨gb475, 1, none⟩ (.int .i64 t470)).setCell ⟨gb475, 2, none⟩ (.slice Ao25 t471.length co25)) w.heap.size (fun k_ => (((True ∧ some k_ ≠ (.slice Ao16 t457.length co16 : Value).ownBlock) ∧ some k_ ≠ (v466 : Value).ownBlock) ∧ some k_ ≠ (.slice Ao25 t471.length co25 : Value).ownBlock)) (.slice Ao20 t461.length co20) t461 from (by (with_reducible repeat (first | apply Kd.R_alloc | apply Kd.R_drewN | apply Kd.R_drew)); exact (Kd.R_mono (Kd.R_far (p := ⟨gb475, 2, none⟩) (Kd.R_far (p := ⟨gb475, 1, none⟩) (Kd.R_far (p := ⟨gb475, 0, none⟩) (Kd.R_types HO463.out BK475.out (by decide)) (fun _ hk => hk.2) (.int .i64 t469)) (fun _ hk => hk.2) (.int .i64 t470)) (fun _ hk => hk.2) (.slice Ao25 t471.length co25)) (fun _ h_ => h_.1)))))))
                (try have hcv75 := fun (n_ : Nat) => (own_string (P := Try.prog) (w := ((((w22.setCell ⟨gb475, 0, none⟩ (.int .i64 t469)).setCell ⟨gb475, 1, none⟩ (.int .i64 t470)).drewN n_).setCell ⟨gb475, 2, none⟩ (.slice Ao25 t471.length co25))) Try.underlying25 Try.underlying5 Try.underlying9 (Kd.own_of_R (show Kd.R (Kd.int .u8) 5 ((((w22.setCell ⟨gb475, 0, none⟩ (.int .i64 t469)).setCell ⟨gb475, 1, none⟩ (.int .i64 t470)).drewN n_).setCell ⟨gb475, 2, none⟩ (.slice Ao25 t471.length co25)) w.heap.size (fun k_ => (((True ∧ some k_ ≠ (.slice Ao16 t457.length co16 : Value).ownBlock) ∧ some k_ ≠ (v466 : Value).ownBlock) ∧ some k_ ≠ (.slice Ao25 t471.length co25 : Value).ownBlock)) (.slice Ao20 t461.length co20) t461 from (by (with_reducible repeat (first | apply Kd.R_alloc | apply Kd.R_drewN | apply Kd.R_drew)); exact (Kd.R_mono (Kd.R_far (p := ⟨gb475, 2, none⟩) (Kd.R_far (p := ⟨gb475, 1, none⟩) (Kd.R_far (p := ⟨gb475, 0, none⟩) (Kd.R_types HO463.out BK475.out (by decide)) (fun _ hk => hk.2) (.int .i64 t469)) (fun _ hk => hk.2) (.int .i64 t470)) (fun _ hk => hk.2) (.slice Ao25 t471.length co25)) (fun _ h_ => h_.1)))))))
                (try have hcv76 := (own_string (P := Try.prog) (w := (((w22.setCell ⟨gb475, 0, none⟩ (.int .i64 t469)).setCell ⟨gb475, 1, none⟩ (.int .i64 t470)).setCell ⟨gb475, 2, none⟩ (.slice Ao25 t471.length co25))) Try.underlying25 Try.underlying5 Try.underlying9 (Kd.own_of_R (show Kd.R (Kd.int .u8) 5 (((w22.setCell ⟨gb475, 0, none⟩ (.int .i64 t469)).setCell ⟨gb475, 1, none⟩ (.int .i64 t470)).setCell ⟨gb475, 2, none⟩ (.slice Ao25 t471.length co25)) w.heap.size (fun k_ => (((True ∧ some k_ ≠ (.slice Ao16 t457.length co16 : Value).ownBlock) ∧ some k_ ≠ (.slice Ao20 t461.length co20 : Value).ownBlock) ∧ some k_ ≠ (.slice Ao25 t471.length co25 : Value).ownBlock)) v466 t465 from (by (with_reducible repeat (first | apply Kd.R_alloc | apply Kd.R_drewN | apply Kd.R_drew)); exact (Kd.R_mono (Kd.R_far (p := ⟨gb475, 2, none⟩) (Kd.R_far (p := ⟨gb475, 1, none⟩) (Kd.R_far (p := ⟨gb475, 0, none⟩) (Kd.R_types HO467.out BK475.out (by decide)) (fun _ hk => hk.2) (.int .i64 t469)) (fun _ hk => hk.2) (.int .i64 t470)) (fun _ hk => hk.2) (.slice Ao25 t471.length co25)) (fun _ h_ => h_.1)))))))
                (try have hcv77 := fun (n_ : Nat) => (own_string (P := Try.prog) (w := ((((w22.drewN n_).setCell ⟨gb475, 0, none⟩ (.int .i64 t469)).setCell ⟨gb475, 1, none⟩ (.int .i64 t470)).setCell ⟨gb475, 2, none⟩ (.slice Ao25 t471.length co25))) Try.underlying25 Try.underlying5 Try.underlying9 (Kd.own_of_R (show Kd.R (Kd.int .u8) 5 ((((w22.drewN n_).setCell ⟨gb475, 0, none⟩ (.int .i64 t469)).setCell ⟨gb475, 1, none⟩ (.int .i64 t470)).setCell ⟨gb475, 2, none⟩ (.slice Ao25 t471.length co25)) w.heap.size (fun k_ => (((True ∧ some k_ ≠ (.slice Ao16 t457.length co16 : Value).ownBlock) ∧ some k_ ≠ (.slice Ao20 t461.length co20 : Value).ownBlock) ∧ some k_ ≠ (.slice Ao25 t471.length co25 : Value).ownBlock)) v466 t465 from (by (with_reducible repeat (first | apply Kd.R_alloc | apply Kd.R_drewN | apply Kd.R_drew)); exact (Kd.R_mono (Kd.R_far (p := ⟨gb475, 2, none⟩) (Kd.R_far (p := ⟨gb475, 1, none⟩) (Kd.R_far (p := ⟨gb475, 0, none⟩) (Kd.R_types HO467.out BK475.out (by decide)) (fun _ hk => hk.2) (.int .i64 t469)) (fun _ hk => hk.2) (.int .i64 t470)) (fun _ hk => hk.2) (.slice Ao25 t471.length co25)) (fun _ h_ => h_.1)))))))
                (try have hcv78 := fun (n_ : Nat) => (own_string (P := Try.prog) (w := ((((w22.setCell ⟨gb475, 0, none⟩ (.int .i64 t469)).drewN n_).setCell ⟨gb475, 1, none⟩ (.int .i64 t470)).setCell ⟨gb475, 2, none⟩ (.slice Ao25 t471.length co25))) Try.underlying25 Try.underlying5 Try.underlying9 (Kd.own_of_R (show Kd.R (Kd.int .u8) 5 ((((w22.setCell ⟨gb475, 0, none⟩ (.int .i64 t469)).drewN n_).setCell ⟨gb475, 1, none⟩ (.int .i64 t470)).setCell ⟨gb475, 2, none⟩ (.slice Ao25 t471.length co25)) w.heap.size (fun k_ => (((True ∧ some k_ ≠ (.slice Ao16 t457.length co16 : Value).ownBlock) ∧ some k_ ≠ (.slice Ao20 t461.length co20 : Value).ownBlock) ∧ some k_ ≠ (.slice Ao25 t471.length co25 : Value).ownBlock)) v466 t465 from (by (with_reducible repeat (first | apply Kd.R_alloc | apply Kd.R_drewN | apply Kd.R_drew)); exact (Kd.R_mono (Kd.R_far (p := ⟨gb475, 2, none⟩) (Kd.R_far (p := ⟨gb475, 1, none⟩) (Kd.R_far (p := ⟨gb475, 0, none⟩) (Kd.R_types HO467.out BK475.out (by decide)) (fun _ hk => hk.2) (.int .i64 t469)) (fun _ hk => hk.2) (.int .i64 t470)) (fun _ hk => hk.2) (.slice Ao25 t471.length co25)) (fun _ h_ => h_.1)))))))
                (try have hcv79 := fun (n_ : Nat) => (own_string (P := Try.prog) (w := ((((w22.setCell ⟨gb475, 0, none⟩ (.int .i64 t469)).setCell ⟨gb475, 1, none⟩ (.int .i64 t470)).drewN n_).setCell ⟨gb475, 2, none⟩ (.slice Ao25 t471.length co25))) Try.underlying25 Try.underlying5 Try.underlying9 (Kd.own_of_R (show Kd.R (Kd.int .u8) 5 ((((w22.setCell ⟨gb475, 0, none⟩ (.int .i64 t469)).setCell ⟨gb475, 1, none⟩ (.int .i64 t470)).drewN n_).setCell ⟨gb475, 2, none⟩ (.slice Ao25 t471.length co25)) w.heap.size (fun k_ => (((True ∧ some k_ ≠ (.slice Ao16 t457.length co16 : Value).ownBlock) ∧ some k_ ≠ (.slice Ao20 t461.length co20 : Value).ownBlock) ∧ some k_ ≠ (.slice Ao25 t471.length co25 : Value).ownBlock)) v466 t465 from (by (with_reducible repeat (first | apply Kd.R_alloc | apply Kd.R_drewN | apply Kd.R_drew)); exact (Kd.R_mono (Kd.R_far (p := ⟨gb475, 2, none⟩) (Kd.R_far (p := ⟨gb475, 1, none⟩) (Kd.R_far (p := ⟨gb475, 0, none⟩) (Kd.R_types HO467.out BK475.out (by decide)) (fun _ hk => hk.2) (.int .i64 t469)) (fun _ hk => hk.2) (.int .i64 t470)) (fun _ hk => hk.2) (.slice Ao25 t471.length co25)) (fun _ h_ => h_.1)))))))
                go_wp2
                go_meet
                case rel => exact ⟨_, (true), (by first | rfl | (simp; done) | (simp [*]; done)), H', ⟨by have := HJ2.out; first | omega | exact Nat.le_refl _⟩, ⟨by (with_reducible repeat (first | apply Kd.R_alloc | apply Kd.R_drewN | apply Kd.R_drew)); exact Kd.R_mono (Kd.R_far (p := ⟨gb475, 2, none⟩) (Kd.R_far (p := ⟨gb475, 1, none⟩) (Kd.R_far (p := ⟨gb475, 0, none⟩) (Kd.R_types HO463.out BK475.out (by decide)) (fun _ hk => hk.2) (.int .i64 t469)) (fun _ hk => hk.2) (.int .i64 t470)) (fun _ hk => hk.2) (.slice Ao25 t471.length co25)) (fun _ hk => ⟨hk.1.1.1.2, hk.1.2⟩)⟩, ⟨by (with_reducible repeat (first | apply Kd.R_alloc | apply Kd.R_drewN | apply Kd.R_drew)); exact Kd.R_mono (Kd.R_far (p := ⟨gb475, 2, none⟩) (Kd.R_far (p := ⟨gb475, 1, none⟩) (Kd.R_far (p := ⟨gb475, 0, none⟩) (Kd.R_types HO459.out BK475.out (by decide)) (fun _ hk => hk.2) (.int .i64 t469)) (fun _ hk => hk.2) (.int .i64 t470)) (fun _ hk => hk.2) (.slice Ao25 t471.length co25)) (fun _ hk => ⟨hk.1.1.1.2, hk.1.2⟩)⟩, ⟨by (with_reducible repeat (first | apply Kd.R_alloc | apply Kd.R_drewN | apply Kd.R_drew)); exact Kd.R_mono (Kd.R_far (p := ⟨gb475, 2, none⟩) (Kd.R_far (p := ⟨gb475, 1, none⟩) (Kd.R_far (p := ⟨gb475, 0, none⟩) (Kd.R_types HO473.out BK475.out (by decide)) (fun _ hk => hk.2) (.int .i64 t469)) (fun _ hk => hk.2) (.int .i64 t470)) (fun _ hk => hk.2) (.slice Ao25 t471.length co25)) (fun _ hk => ⟨hk.1.1.2, hk.1.1.1.2⟩)⟩, ⟨by (with_reducible repeat (first | refine blk_drewN ?_ _ | refine blk_drew ?_ | refine blk_alloc ?_ _)); refine blk_far ?_ NB460_475.out _; (with_reducible repeat (first | refine blk_drewN ?_ _ | refine blk_drew ?_ | refine blk_alloc ?_ _)); refine blk_far ?_ NB460_475.out _; (with_reducible repeat (first | refine blk_drewN ?_ _ | refine blk_drew ?_ | refine blk_alloc ?_ _)); refine blk_far ?_ NB460_475.out _; (with_reducible repeat (first | refine blk_drewN ?_ _ | refine blk_drew ?_ | refine blk_alloc ?_ _)); exact BK460.out⟩, ⟨by (with_reducible repeat (first | refine blk_drewN ?_ _ | refine blk_drew ?_ | refine blk_alloc ?_ _)); refine blk_put (cs := #[.int .i64 t469, .int .i64 t470, .slice none 0 0]) ?_ 2 _ rfl; (with_reducible repeat (first | refine blk_drewN ?_ _ | refine blk_drew ?_ | refine blk_alloc ?_ _)); refine blk_put (cs := #[.int .i64 t469, .int .i64 0, .slice none 0 0]) ?_ 1 _ rfl; (with_reducible repeat (first | refine blk_drewN ?_ _ | refine blk_drew ?_ | refine blk_alloc ?_ _)); refine blk_put (cs := #[.int .i64 0, .int .i64 0, .slice none 0 0]) ?_ 0 _ rfl; (with_reducible repeat (first | refine blk_drewN ?_ _ | refine blk_drew ?_ | refine blk_alloc ?_ _)); exact BK475.out⟩, ⟨by repeat (first | (with_reducible first | exact HB.out | apply below_alloc | apply pw_below_drewN | apply below_drew1 | refine below_set ?_ GE460.out | refine below_set ?_ GE475.out) | exact HB.out)⟩⟩
            · rw [if_neg c27] at H
              have c27b0 : (t474 == 0) = false := beq_eq_false_iff_ne.mpr c27
              have c27b1 : (t474 != 0) = true := bne_iff_ne.mpr c27
              have H' := Aside0.mk H
              clear H
              go_wp2
              go_meet
              case rel => exact ⟨_, (true), (by first | rfl | (simp; done) | (simp [*]; done)), H', ⟨by have := HJ2.out; first | omega | exact Nat.le_refl _⟩, ⟨by (with_reducible repeat (first | apply Kd.R_alloc | apply Kd.R_drewN | apply Kd.R_drew)); exact Kd.R_mono (Kd.R_far (p := ⟨gb475, 2, none⟩) (Kd.R_far (p := ⟨gb475, 1, none⟩) (Kd.R_far (p := ⟨gb475, 0, none⟩) (Kd.R_types HO463.out BK475.out (by decide)) (fun _ hk => hk.2) (.int .i64 t469)) (fun _ hk => hk.2) (.int .i64 t470)) (fun _ hk => hk.2) (.slice Ao25 t471.length co25)) (fun _ hk => ⟨hk.1.1.1.2, hk.1.2⟩)⟩, ⟨by (with_reducible repeat (first | apply Kd.R_alloc | apply Kd.R_drewN | apply Kd.R_drew)); exact Kd.R_mono (Kd.R_far (p := ⟨gb475, 2, none⟩) (Kd.R_far (p := ⟨gb475, 1, none⟩) (Kd.R_far (p := ⟨gb475, 0, none⟩) (Kd.R_types HO459.out BK475.out (by decide)) (fun _ hk => hk.2) (.int .i64 t469)) (fun _ hk => hk.2) (.int .i64 t470)) (fun _ hk => hk.2) (.slice Ao25 t471.length co25)) (fun _ hk => ⟨hk.1.1.1.2, hk.1.2⟩)⟩, ⟨by (with_reducible repeat (first | apply Kd.R_alloc | apply Kd.R_drewN | apply Kd.R_drew)); exact Kd.R_mono (Kd.R_far (p := ⟨gb475, 2, none⟩) (Kd.R_far (p := ⟨gb475, 1, none⟩) (Kd.R_far (p := ⟨gb475, 0, none⟩) (Kd.R_types HO473.out BK475.out (by decide)) (fun _ hk => hk.2) (.int .i64 t469)) (fun _ hk => hk.2) (.int .i64 t470)) (fun _ hk => hk.2) (.slice Ao25 t471.length co25)) (fun _ hk => ⟨hk.1.1.2, hk.1.1.1.2⟩)⟩, ⟨by (with_reducible repeat (first | refine blk_drewN ?_ _ | refine blk_drew ?_ | refine blk_alloc ?_ _)); refine blk_far ?_ NB460_475.out _; (with_reducible repeat (first | refine blk_drewN ?_ _ | refine blk_drew ?_ | refine blk_alloc ?_ _)); refine blk_far ?_ NB460_475.out _; (with_reducible repeat (first | refine blk_drewN ?_ _ | refine blk_drew ?_ | refine blk_alloc ?_ _)); refine blk_far ?_ NB460_475.out _; (with_reducible repeat (first | refine blk_drewN ?_ _ | refine blk_drew ?_ | refine blk_alloc ?_ _)); exact BK460.out⟩, ⟨by (with_reducible repeat (first | refine blk_drewN ?_ _ | refine blk_drew ?_ | refine blk_alloc ?_ _)); refine blk_put (cs := #[.int .i64 t469, .int .i64 t470, .slice none 0 0]) ?_ 2 _ rfl; (with_reducible repeat (first | refine blk_drewN ?_ _ | refine blk_drew ?_ | refine blk_alloc ?_ _)); refine blk_put (cs := #[.int .i64 t469, .int .i64 0, .slice none 0 0]) ?_ 1 _ rfl; (with_reducible repeat (first | refine blk_drewN ?_ _ | refine blk_drew ?_ | refine blk_alloc ?_ _)); refine blk_put (cs := #[.int .i64 0, .int .i64 0, .slice none 0 0]) ?_ 0 _ rfl; (with_reducible repeat (first | refine blk_drewN ?_ _ | refine blk_drew ?_ | refine blk_alloc ?_ _)); exact BK475.out⟩, ⟨by repeat (first | (with_reducible first | exact HB.out | apply below_alloc | apply pw_below_drewN | apply below_drew1 | refine below_set ?_ GE460.out | refine below_set ?_ GE475.out) | exact HB.out)⟩⟩
          · rw [if_neg c26] at H
            have c26b0 : (t464 == 0) = false := beq_eq_false_iff_ne.mpr c26
            have c26b1 : (t464 != 0) = true := bne_iff_ne.mpr c26
            (first | rw [c26b0] | (simp only [i64_w, i32_w]; rw [c26b0]) | skip)
            have H' := Aside0.mk H
            clear H
            go_wp2
            go_meet
            case rel => exact ⟨_, (true), (by first | rfl | (simp; done) | (simp [*]; done)), H', ⟨by have := HJ2.out; first | omega | exact Nat.le_refl _⟩, ⟨by (with_reducible repeat (first | apply Kd.R_alloc | apply Kd.R_drewN | apply Kd.R_drew)); exact Kd.R_mono (Kd.R_far (p := ⟨gb475, 2, none⟩) (Kd.R_far (p := ⟨gb475, 1, none⟩) (Kd.R_far (p := ⟨gb475, 0, none⟩) (Kd.R_types HO463.out BK475.out (by decide)) (fun _ hk => hk.2) (.int .i64 t469)) (fun _ hk => hk.2) (.int .i64 t470)) (fun _ hk => hk.2) (.slice Ao25 t471.length co25)) (fun _ hk => ⟨hk.1.1.1.2, hk.1.2⟩)⟩, ⟨by (with_reducible repeat (first | apply Kd.R_alloc | apply Kd.R_drewN | apply Kd.R_drew)); exact Kd.R_mono (Kd.R_far (p := ⟨gb475, 2, none⟩) (Kd.R_far (p := ⟨gb475, 1, none⟩) (Kd.R_far (p := ⟨gb475, 0, none⟩) (Kd.R_types HO459.out BK475.out (by decide)) (fun _ hk => hk.2) (.int .i64 t469)) (fun _ hk => hk.2) (.int .i64 t470)) (fun _ hk => hk.2) (.slice Ao25 t471.length co25)) (fun _ hk => ⟨hk.1.1.1.2, hk.1.2⟩)⟩, ⟨by (with_reducible repeat (first | apply Kd.R_alloc | apply Kd.R_drewN | apply Kd.R_drew)); exact Kd.R_mono (Kd.R_far (p := ⟨gb475, 2, none⟩) (Kd.R_far (p := ⟨gb475, 1, none⟩) (Kd.R_far (p := ⟨gb475, 0, none⟩) (Kd.R_types HO473.out BK475.out (by decide)) (fun _ hk => hk.2) (.int .i64 t469)) (fun _ hk => hk.2) (.int .i64 t470)) (fun _ hk => hk.2) (.slice Ao25 t471.length co25)) (fun _ hk => ⟨hk.1.1.2, hk.1.1.1.2⟩)⟩, ⟨by (with_reducible repeat (first | refine blk_drewN ?_ _ | refine blk_drew ?_ | refine blk_alloc ?_ _)); refine blk_far ?_ NB460_475.out _; (with_reducible repeat (first | refine blk_drewN ?_ _ | refine blk_drew ?_ | refine blk_alloc ?_ _)); refine blk_far ?_ NB460_475.out _; (with_reducible repeat (first | refine blk_drewN ?_ _ | refine blk_drew ?_ | refine blk_alloc ?_ _)); refine blk_far ?_ NB460_475.out _; (with_reducible repeat (first | refine blk_drewN ?_ _ | refine blk_drew ?_ | refine blk_alloc ?_ _)); exact BK460.out⟩, ⟨by (with_reducible repeat (first | refine blk_drewN ?_ _ | refine blk_drew ?_ | refine blk_alloc ?_ _)); refine blk_put (cs := #[.int .i64 t469, .int .i64 t470, .slice none 0 0]) ?_ 2 _ rfl; (with_reducible repeat (first | refine blk_drewN ?_ _ | refine blk_drew ?_ | refine blk_alloc ?_ _)); refine blk_put (cs := #[.int .i64 t469, .int .i64 0, .slice none 0 0]) ?_ 1 _ rfl; (with_reducible repeat (first | refine blk_drewN ?_ _ | refine blk_drew ?_ | refine blk_alloc ?_ _)); refine blk_put (cs := #[.int .i64 0, .int .i64 0, .slice none 0 0]) ?_ 0 _ rfl; (with_reducible repeat (first | refine blk_drewN ?_ _ | refine blk_drew ?_ | refine blk_alloc ?_ _)); exact BK475.out⟩, ⟨by repeat (first | (with_reducible first | exact HB.out | apply below_alloc | apply pw_below_drewN | apply below_drew1 | refine below_set ?_ GE460.out | refine below_set ?_ GE475.out) | exact HB.out)⟩⟩
        case rest =>
          clear HC11
          try clear c1
          try clear c2
          try clear p2
          try clear c3
          try clear hcv3
          try clear c4
          try clear c4b0
          try clear c4b1
          try clear hcv4
          try clear c5
          try clear hcv5
          try clear c6
          try clear hcv6
          try clear hcv7
          try clear c23
          try clear c26
          try clear c26b0
          try clear c26b1
          try clear c27
          try clear c27b0
          try clear c27b1
          try clear c28
          try clear c28b0
          try clear c28b1
          try clear c29
          try clear c29b0
          try clear c29b1
          try clear c30
          try clear c30b0
          try clear c30b1
          try clear hcv31
          try clear c32
          try clear hcv32
          try clear c33
          try clear hcv33
          try clear c34
          try clear hcv34
          try clear c35
          try clear hcv35
          try clear c36
          try clear hcv36
          try clear hcv37
          try clear hcv38
          try clear c39
          try clear hcv42
          try clear hcv43
          try clear hcv44
          try clear hcv45
          try clear hcv46
          try clear hcv47
          try clear hcv48
          try clear hcv49
          try clear hcv50
          try clear hcv51
          try clear hcv52
          try clear hcv53
          try clear hcv54
          try clear hcv55
          try clear hcv56
          try clear hcv57
          try clear c58
          try clear hcv61
          try clear hcv62
          try clear hcv63
          try clear hcv64
          try clear hcv65
          try clear hcv66
          try clear hcv67
          try clear hcv68
          try clear c69
          try clear hcv72
          try clear hcv73
          try clear hcv74
          try clear hcv75
          try clear hcv76
          try clear hcv77
          try clear hcv78
          try clear hcv79
          try clear hcz15_0
          try clear hcz15_1
          try clear hcz15_2
          try clear hcz18_0
          try clear hcz18_1
          try clear hcz18_2
          try clear hcz24_0
          try clear hcz24_1
          try clear hcz24_2
          try clear hcz40_0
          try clear hcz40_1
          try clear hcz40_2
          try clear hcz41_0
          try clear hcz41_1
          try clear hcz41_2
          try clear hcz59_0
          try clear hcz59_1
          try clear hcz59_2
          try clear hcz60_0
          try clear hcz60_1
          try clear hcz60_2
          try clear hcz70_0
          try clear hcz70_1
          try clear hcz70_2
          try clear hcz71_0
          try clear hcz71_1
          try clear hcz71_2
          try clear hfz15_0
          try clear hfz15_1
          try clear hfz15_2
          try clear hfz18_0
          try clear hfz18_1
          try clear hfz18_2
          try clear hfz24_0
          try clear hfz24_1
          try clear hfz24_2
          try clear hfz40_0
          try clear hfz40_1
          try clear hfz40_2
          try clear hfz41_0
          try clear hfz41_1
          try clear hfz41_2
          try clear hfz59_0
          try clear hfz59_1
          try clear hfz59_2
          try clear hfz60_0
          try clear hfz60_1
          try clear hfz60_2
          try clear hfz70_0
          try clear hfz70_1
          try clear hfz70_2
          try clear hfz71_0
          try clear hfz71_1
          try clear hfz71_2
          try clear p2
          obtain ⟨kq, x91_10, rfl, HA, HJ10, HO_8, HO_461002, HO_476002, BK460, BK475, HB⟩ := hcut
          cases kq with
          | zero => exact absurd HA.out (by simp [laws_FnUdp.j1])
          | succ kj10 =>
            have H := HA.out
            clear HA
            simp only [laws_FnUdp.j1] at H
            by_cases c80 : x91_10 = true
            · subst c80
              have H1 : (some false) = some r := by rw [if_pos rfl] at H; exact H
              clear H
              have H := H1
              clear H1
              obtain rfl := Option.some.inj H
              go_wp2
              go_ret
              exact ⟨by first | rfl | (simp [errW_none, errW_some] <;> rfl) | (simp [*, errW_none, errW_some] <;> rfl), by repeat (first | (with_reducible first | exact HB.out | apply below_alloc | apply pw_below_drewN | apply below_drew1 | refine below_set ?_ GE460.out | refine below_set ?_ GE475.out) | exact HB.out)⟩
            · replace c80 := Bool.eq_false_iff.mpr c80
              subst c80
              have H1 : ((impl_PseudoSum.f kj10 t453 t454 17 t461).bind fun bt476 => ((spec_PseudoSum.f kj10 t453 t454 17 t461).bind fun bt478 => (if bt476.2 = 0 then (if bt476.1 = 0 then (laws_FnUdp.j2 kj10 l1 t453 t454 t461 (bt478.1 != 0)) else (laws_FnUdp.j2 kj10 l1 t453 t454 t461 true)) else (laws_FnUdp.j2 kj10 l1 t453 t454 t461 true)))) = some r := by rw [if_neg (show ¬ (false = true) by decide)] at H; exact H
              clear H
              have H := H1
              clear H1
              replace H := Option.bind_eq_some_iff.mp H
              obtain ⟨⟨t476, t477⟩, A810, H⟩ := H
              replace H : ((spec_PseudoSum.f kj10 t453 t454 17 t461).bind fun bt478 => (if t477 = 0 then (if t476 = 0 then (laws_FnUdp.j2 kj10 l1 t453 t454 t461 (bt478.1 != 0)) else (laws_FnUdp.j2 kj10 l1 t453 t454 t461 true)) else (laws_FnUdp.j2 kj10 l1 t453 t454 t461 true))) = some r := H
              have A81 := Aside0.mk A810
              clear A810
              replace H := Option.bind_eq_some_iff.mp H
              obtain ⟨⟨t478, t479⟩, A820, H⟩ := H
              replace H : (if t477 = 0 then (if t476 = 0 then (laws_FnUdp.j2 kj10 l1 t453 t454 t461 (t478 != 0)) else (laws_FnUdp.j2 kj10 l1 t453 t454 t461 true)) else (laws_FnUdp.j2 kj10 l1 t453 t454 t461 true)) = some r := H
              have A82 := Aside0.mk A820
              clear A820
              have HC83 := Aside0.mk H
              clear H
              go_upto_region 12 with (first | ((with_reducible refine gate_callee (f := 37) rfl ?_); refine goesL_ (some 96) rfl rfl Try.func37 (by kernel_rfl) rfl #[.string t453, .string t454, .int .i64 17, .slice Ao20 t461.length co20] rfl (by (try simp only [List.map_toArray, List.map_cons, List.map_nil]); first | done | rfl | (simp only [List.length_drop, List.length_take]; rfl)) ?_; (with_reducible refine (impl_PseudoSum.calls kj10 t453 t454 17 _ _ t461 t476 t477 _ ?side1 ?side2 A81.out).mono ?_); (case side1 => repeat (first | exact (Kd.R_reads' HO_8.out).2.2 | (with_reducible refine Kd.C_alloc ?_ _) | (with_reducible refine Kd.C_drewN ?_ _) | (with_reducible refine Kd.C_drew ?_))); (case side2 => exact (Kd.R_reads' HO_8.out).2.1); rintro e w84 ⟨rfl, hb⟩; refine ⟨_, rfl, ?_⟩; have n0_ := Aside0.mk (Kd.R_below (by (with_reducible repeat (first | apply Kd.R_alloc | apply Kd.R_drewN | apply Kd.R_drew)); exact HO_8.out) hb); have n1_ := Aside0.mk (Kd.R_below (by (with_reducible repeat (first | apply Kd.R_alloc | apply Kd.R_drewN | apply Kd.R_drew)); exact HO_461002.out) hb); have n2_ := Aside0.mk (Kd.R_below (by (with_reducible repeat (first | apply Kd.R_alloc | apply Kd.R_drewN | apply Kd.R_drew)); exact HO_476002.out) hb); have n3_ := Aside0.mk (blk_below (g := gb460) (o := .cells #[.int .i64 t455, .int .i64 t456, .slice Ao16 t457.length co16] 52 (0, 0)) (by (with_reducible repeat (first | refine blk_drewN ?_ _ | refine blk_drew ?_ | refine blk_alloc ?_ _)); exact BK460.out) hb); have n4_ := Aside0.mk (blk_below (g := gb475) (o := .cells #[.int .i64 t469, .int .i64 t470, .slice Ao25 t471.length co25] 52 (0, 0)) (by (with_reducible repeat (first | refine blk_drewN ?_ _ | refine blk_drew ?_ | refine blk_alloc ?_ _)); exact BK475.out) hb); have n5_ := Aside0.mk (below_step (by repeat (first | (with_reducible first | exact HB.out | apply below_alloc | apply pw_below_drewN | apply below_drew1 | refine below_set ?_ GE460.out | refine below_set ?_ GE475.out) | exact HB.out)) hb); clear HO_8; clear HO_461002; clear HO_476002; clear BK460; clear BK475; clear HB; have HO_8 := n0_; have HO_461002 := n1_; have HO_476002 := n2_; have BK460 := n3_; have BK475 := n4_; have HB := n5_; clear n0_ n1_ n2_ n3_ n4_ n5_; (try clear hb); (try clear hb2); (try clear hk); (try clear hi)) | ((with_reducible refine gate_callee (f := 38) rfl ?_); refine goesL_ (some 103) rfl rfl Try.func38 (by kernel_rfl) rfl #[.string t453, .string t454, .int .i64 17, .slice Ao20 t461.length co20] rfl (by (try simp only [List.map_toArray, List.map_cons, List.map_nil]); first | done | rfl | (simp only [List.length_drop, List.length_take]; rfl)) ?_; (with_reducible refine (spec_PseudoSum.calls kj10 t453 t454 17 _ _ t461 t478 t479 _ ?side1 ?side2 A82.out).mono ?_); (case side1 => repeat (first | exact (Kd.R_reads' HO_8.out).2.2 | (with_reducible refine Kd.C_alloc ?_ _) | (with_reducible refine Kd.C_drewN ?_ _) | (with_reducible refine Kd.C_drew ?_))); (case side2 => exact (Kd.R_reads' HO_8.out).2.1); rintro e w85 ⟨rfl, hb⟩; refine ⟨_, rfl, ?_⟩; have n0_ := Aside0.mk (Kd.R_below (by (with_reducible repeat (first | apply Kd.R_alloc | apply Kd.R_drewN | apply Kd.R_drew)); exact HO_8.out) hb); have n1_ := Aside0.mk (Kd.R_below (by (with_reducible repeat (first | apply Kd.R_alloc | apply Kd.R_drewN | apply Kd.R_drew)); exact HO_461002.out) hb); have n2_ := Aside0.mk (Kd.R_below (by (with_reducible repeat (first | apply Kd.R_alloc | apply Kd.R_drewN | apply Kd.R_drew)); exact HO_476002.out) hb); have n3_ := Aside0.mk (blk_below (g := gb460) (o := .cells #[.int .i64 t455, .int .i64 t456, .slice Ao16 t457.length co16] 52 (0, 0)) (by (with_reducible repeat (first | refine blk_drewN ?_ _ | refine blk_drew ?_ | refine blk_alloc ?_ _)); exact BK460.out) hb); have n4_ := Aside0.mk (blk_below (g := gb475) (o := .cells #[.int .i64 t469, .int .i64 t470, .slice Ao25 t471.length co25] 52 (0, 0)) (by (with_reducible repeat (first | refine blk_drewN ?_ _ | refine blk_drew ?_ | refine blk_alloc ?_ _)); exact BK475.out) hb); have n5_ := Aside0.mk (below_step (by repeat (first | (with_reducible first | exact HB.out | apply below_alloc | apply pw_below_drewN | apply below_drew1 | refine below_set ?_ GE460.out | refine below_set ?_ GE475.out) | exact HB.out)) hb); clear HO_8; clear HO_461002; clear HO_476002; clear BK460; clear BK475; clear HB; have HO_8 := n0_; have HO_461002 := n1_; have HO_476002 := n2_; have BK460 := n3_; have BK475 := n4_; have HB := n5_; clear n0_ n1_ n2_ n3_ n4_ n5_; (try clear hb); (try clear hb2); (try clear hk); (try clear hi)))
              (try simp only [Act.put, List.setIfInBounds_toArray, List.set_cons_zero, List.set_cons_succ])
              go_cut [115] (fun v115 wc => ∃ (kq : Nat) (x115_82 : Bool), v115 = .bool x115_82 ∧ Aside0 (laws_FnUdp.j2 kq l1 t453 t454 t461 x115_82 = some r) ∧ Aside0 (kq ≤ kj10) ∧ Aside0 (Kd.R (Kd.int .u8) 5 wc w.heap.size (fun k_ => some k_ ≠ ((.slice Ao16 t457.length co16) : Value).ownBlock ∧ some k_ ≠ ((.slice Ao25 t471.length co25) : Value).ownBlock) (.slice Ao20 t461.length co20) t461) ∧ Aside0 (Kd.R (Kd.int .u8) 5 wc w.heap.size (fun k_ => some k_ ≠ ((.slice Ao20 t461.length co20) : Value).ownBlock ∧ some k_ ≠ ((.slice Ao25 t471.length co25) : Value).ownBlock) (.slice Ao16 t457.length co16) t457) ∧ Aside0 (Kd.R (Kd.int .u8) 5 wc w.heap.size (fun k_ => some k_ ≠ ((.slice Ao20 t461.length co20) : Value).ownBlock ∧ some k_ ≠ ((.slice Ao16 t457.length co16) : Value).ownBlock) (.slice Ao25 t471.length co25) t471) ∧ Aside0 (wc.heap[gb460]? = some (.cells #[.int .i64 t455, .int .i64 t456, (.slice Ao16 t457.length co16)] 52 (0, 0))) ∧ Aside0 (wc.heap[gb475]? = some (.cells #[.int .i64 t469, .int .i64 t470, (.slice Ao25 t471.length co25)] 52 (0, 0))) ∧ Aside0 (Below w.heap.size w wc))
              case first =>
                have H := HC83.out
                clear HC83
                by_cases c86 : t477 = 0
                · rw [if_pos c86] at H
                  have c86b0 : (t477 == 0) = true := beq_iff_eq.mpr c86
                  have c86b1 : (t477 != 0) = false := bne_eq_false_iff_eq.mpr c86
                  clear c86
                  (first | rw [c86b0] | (simp only [i64_w, i32_w]; rw [c86b0]) | skip)
                  by_cases c87 : t476 = 0
                  · rw [if_pos c87] at H
                    have c87b0 : (t476 == 0) = true := beq_iff_eq.mpr c87
                    have c87b1 : (t476 != 0) = false := bne_eq_false_iff_eq.mpr c87
                    clear c87
                    have H' := Aside0.mk H
                    clear H
                    go_wp2
                    go_meet
                    case rel => exact ⟨_, ((t478 != 0)), (by first | rfl | (simp; done) | (simp [*]; done)), H', ⟨by have := HJ2.out; have := HJ10.out; first | omega | exact Nat.le_refl _⟩, ⟨by (with_reducible repeat (first | apply Kd.R_alloc | apply Kd.R_drewN | apply Kd.R_drew)); exact HO_8.out⟩, ⟨by (with_reducible repeat (first | apply Kd.R_alloc | apply Kd.R_drewN | apply Kd.R_drew)); exact HO_461002.out⟩, ⟨by (with_reducible repeat (first | apply Kd.R_alloc | apply Kd.R_drewN | apply Kd.R_drew)); exact HO_476002.out⟩, ⟨by (with_reducible repeat (first | refine blk_drewN ?_ _ | refine blk_drew ?_ | refine blk_alloc ?_ _)); exact BK460.out⟩, ⟨by (with_reducible repeat (first | refine blk_drewN ?_ _ | refine blk_drew ?_ | refine blk_alloc ?_ _)); exact BK475.out⟩, ⟨by repeat (first | (with_reducible first | exact HB.out | apply below_alloc | apply pw_below_drewN | apply below_drew1 | refine below_set ?_ GE460.out | refine below_set ?_ GE475.out) | exact HB.out)⟩⟩
                  · rw [if_neg c87] at H
                    have c87b0 : (t476 == 0) = false := beq_eq_false_iff_ne.mpr c87
                    have c87b1 : (t476 != 0) = true := bne_iff_ne.mpr c87
                    have H' := Aside0.mk H
                    clear H
                    go_wp2
                    go_meet
                    case rel => exact ⟨_, (true), (by first | rfl | (simp; done) | (simp [*]; done)), H', ⟨by have := HJ2.out; have := HJ10.out; first | omega | exact Nat.le_refl _⟩, ⟨by (with_reducible repeat (first | apply Kd.R_alloc | apply Kd.R_drewN | apply Kd.R_drew)); exact HO_8.out⟩, ⟨by (with_reducible repeat (first | apply Kd.R_alloc | apply Kd.R_drewN | apply Kd.R_drew)); exact HO_461002.out⟩, ⟨by (with_reducible repeat (first | apply Kd.R_alloc | apply Kd.R_drewN | apply Kd.R_drew)); exact HO_476002.out⟩, ⟨by (with_reducible repeat (first | refine blk_drewN ?_ _ | refine blk_drew ?_ | refine blk_alloc ?_ _)); exact BK460.out⟩, ⟨by (with_reducible repeat (first | refine blk_drewN ?_ _ | refine blk_drew ?_ | refine blk_alloc ?_ _)); exact BK475.out⟩, ⟨by repeat (first | (with_reducible first | exact HB.out | apply below_alloc | apply pw_below_drewN | apply below_drew1 | refine below_set ?_ GE460.out | refine below_set ?_ GE475.out) | exact HB.out)⟩⟩
                · rw [if_neg c86] at H
                  have c86b0 : (t477 == 0) = false := beq_eq_false_iff_ne.mpr c86
                  have c86b1 : (t477 != 0) = true := bne_iff_ne.mpr c86
                  (first | rw [c86b0] | (simp only [i64_w, i32_w]; rw [c86b0]) | skip)
                  have H' := Aside0.mk H
                  clear H
                  go_wp2
                  go_meet
                  case rel => exact ⟨_, (true), (by first | rfl | (simp; done) | (simp [*]; done)), H', ⟨by have := HJ2.out; have := HJ10.out; first | omega | exact Nat.le_refl _⟩, ⟨by (with_reducible repeat (first | apply Kd.R_alloc | apply Kd.R_drewN | apply Kd.R_drew)); exact HO_8.out⟩, ⟨by (with_reducible repeat (first | apply Kd.R_alloc | apply Kd.R_drewN | apply Kd.R_drew)); exact HO_461002.out⟩, ⟨by (with_reducible repeat (first | apply Kd.R_alloc | apply Kd.R_drewN | apply Kd.R_drew)); exact HO_476002.out⟩, ⟨by (with_reducible repeat (first | refine blk_drewN ?_ _ | refine blk_drew ?_ | refine blk_alloc ?_ _)); exact BK460.out⟩, ⟨by (with_reducible repeat (first | refine blk_drewN ?_ _ | refine blk_drew ?_ | refine blk_alloc ?_ _)); exact BK475.out⟩, ⟨by repeat (first | (with_reducible first | exact HB.out | apply below_alloc | apply pw_below_drewN | apply below_drew1 | refine below_set ?_ GE460.out | refine below_set ?_ GE475.out) | exact HB.out)⟩⟩
              case rest =>
                clear HC83
                try clear c1
                try clear c2
                try clear p2
                try clear c3
                try clear hcv3
                try clear c4
                try clear c4b0
                try clear c4b1
                try clear hcv4
                try clear c5
                try clear hcv5
                try clear c6
                try clear hcv6
                try clear hcv7
                try clear c8
                try clear c23
                try clear c26
                try clear c26b0
                try clear c26b1
                try clear c27
                try clear c27b0
                try clear c27b1
                try clear c28
                try clear c28b0
                try clear c28b1
                try clear c29
                try clear c29b0
                try clear c29b1
                try clear c30
                try clear c30b0
                try clear c30b1
                try clear hcv31
                try clear c32
                try clear hcv32
                try clear c33
                try clear hcv33
                try clear c34
                try clear hcv34
                try clear c35
                try clear hcv35
                try clear c36
                try clear hcv36
                try clear c37
                try clear hcv37
                try clear c38
                try clear hcv38
                try clear c39
                try clear hcv42
                try clear hcv43
                try clear hcv44
                try clear hcv45
                try clear hcv46
                try clear hcv47
                try clear hcv48
                try clear hcv49
                try clear hcv50
                try clear hcv51
                try clear hcv52
                try clear hcv53
                try clear hcv54
                try clear hcv55
                try clear hcv56
                try clear hcv57
                try clear c58
                try clear hcv61
                try clear hcv62
                try clear hcv63
                try clear hcv64
                try clear hcv65
                try clear hcv66
                try clear hcv67
                try clear hcv68
                try clear c69
                try clear hcv72
                try clear hcv73
                try clear hcv74
                try clear hcv75
                try clear hcv76
                try clear hcv77
                try clear hcv78
                try clear hcv79
                try clear c80
                try clear c86
                try clear c86b0
                try clear c86b1
                try clear c87
                try clear c87b0
                try clear c87b1
                try clear hcz15_0
                try clear hcz15_1
                try clear hcz15_2
                try clear hcz18_0
                try clear hcz18_1
                try clear hcz18_2
                try clear hcz24_0
                try clear hcz24_1
                try clear hcz24_2
                try clear hcz40_0
                try clear hcz40_1
                try clear hcz40_2
                try clear hcz41_0
                try clear hcz41_1
                try clear hcz41_2
                try clear hcz59_0
                try clear hcz59_1
                try clear hcz59_2
                try clear hcz60_0
                try clear hcz60_1
                try clear hcz60_2
                try clear hcz70_0
                try clear hcz70_1
                try clear hcz70_2
                try clear hcz71_0
                try clear hcz71_1
                try clear hcz71_2
                try clear hfz15_0
                try clear hfz15_1
                try clear hfz15_2
                try clear hfz18_0
                try clear hfz18_1
                try clear hfz18_2
                try clear hfz24_0
                try clear hfz24_1
                try clear hfz24_2
                try clear hfz40_0
                try clear hfz40_1
                try clear hfz40_2
                try clear hfz41_0
                try clear hfz41_1
                try clear hfz41_2
                try clear hfz59_0
                try clear hfz59_1
                try clear hfz59_2
                try clear hfz60_0
                try clear hfz60_1
                try clear hfz60_2
                try clear hfz70_0
                try clear hfz70_1
                try clear hfz70_2
                try clear hfz71_0
                try clear hfz71_1
                try clear hfz71_2
                try clear p2
                obtain ⟨kq, x115_82, rfl, HA, HJ82, HO_8, HO_461002, HO_476002, BK460, BK475, HB⟩ := hcut
                cases kq with
                | zero => exact absurd HA.out (by simp [laws_FnUdp.j2])
                | succ kj82 =>
                  have H := HA.out
                  clear HA
                  simp only [laws_FnUdp.j2] at H
                  by_cases c88 : x115_82 = true
                  · subst c88
                    have H1 : (some false) = some r := by rw [if_pos rfl] at H; exact H
                    clear H
                    have H := H1
                    clear H1
                    obtain rfl := Option.some.inj H
                    go_wp2
                    go_ret
                    exact ⟨by first | rfl | (simp [errW_none, errW_some] <;> rfl) | (simp [*, errW_none, errW_some] <;> rfl), by repeat (first | (with_reducible first | exact HB.out | apply below_alloc | apply pw_below_drewN | apply below_drew1 | refine below_set ?_ GE460.out | refine below_set ?_ GE475.out) | exact HB.out)⟩
                  · replace c88 := Bool.eq_false_iff.mpr c88
                    subst c88
                    have H1 : ((laws_at.f l1 0 (t461.length : Int)).bind fun t480 => (if 0 ≤ t480 then (if t480 < (t461.length : Int) then ((laws_at.f l1 1 255).bind fun t482 => ((some (t461.set (t480 : Int).toNat (Go.bits .xor .u8 (rd t461 t480) ((wrap64 (1 + t482)) % 256)) : List Int)).bind fun y483 => ((impl_ReadUdp.f kj82 t453 t454 y483).bind fun bt484 => (if bt484.2.2.2 = 0 then (if 6 < (t461.length : Int) then (if (rd y483 6) = 0 then (if 7 < (t461.length : Int) then (some ((rd y483 7) == 0)) else (none)) else (some false)) else (none)) else (some true))))) else (none)) else (none))) = some r := by rw [if_neg (show ¬ (false = true) by decide)] at H; exact H
                    clear H
                    have H := H1
                    clear H1
                    replace H := Option.bind_eq_some_iff.mp H
                    obtain ⟨t480, A890, H⟩ := H
                    replace H : (if 0 ≤ t480 then (if t480 < (t461.length : Int) then ((laws_at.f l1 1 255).bind fun t482 => ((some (t461.set (t480 : Int).toNat (Go.bits .xor .u8 (rd t461 t480) ((wrap64 (1 + t482)) % 256)) : List Int)).bind fun y483 => ((impl_ReadUdp.f kj82 t453 t454 y483).bind fun bt484 => (if bt484.2.2.2 = 0 then (if 6 < (t461.length : Int) then (if (rd y483 6) = 0 then (if 7 < (t461.length : Int) then (some ((rd y483 7) == 0)) else (none)) else (some false)) else (none)) else (some true))))) else (none)) else (none)) = some r := H
                    have A89 := Aside0.mk A890
                    clear A890
                    by_cases c90 : 0 ≤ t480
                    · rw [if_pos c90] at H
                      have c90b0 : decide (0 ≤ t480) = true := decide_eq_true c90
                      clear c90
                      by_cases c91 : t480 < (t461.length : Int)
                      · rw [if_pos c91] at H
                        have c91b0 : decide (t480 < (t461.length : Int)) = true := decide_eq_true c91
                        clear c91
                        replace H := Option.bind_eq_some_iff.mp H
                        obtain ⟨t482, A920, H⟩ := H
                        replace H : ((some (t461.set (t480 : Int).toNat (Go.bits .xor .u8 (rd t461 t480) ((wrap64 (1 + t482)) % 256)) : List Int)).bind fun y483 => ((impl_ReadUdp.f kj82 t453 t454 y483).bind fun bt484 => (if bt484.2.2.2 = 0 then (if 6 < (t461.length : Int) then (if (rd y483 6) = 0 then (if 7 < (t461.length : Int) then (some ((rd y483 7) == 0)) else (none)) else (some false)) else (none)) else (some true)))) = some r := H
                        have A92 := Aside0.mk A920
                        clear A920
                        obtain ⟨y483, hy483⟩ : ∃ y_ : List Int, y_ = (t461.set (t480 : Int).toNat (Go.bits .xor .u8 (rd t461 t480) ((wrap64 (1 + t482)) % 256))) := ⟨_, rfl⟩
                        replace H : ((impl_ReadUdp.f kj82 t453 t454 y483).bind fun bt484 => (if bt484.2.2.2 = 0 then (if 6 < (t461.length : Int) then (if (rd y483 6) = 0 then (if 7 < (t461.length : Int) then (some ((rd y483 7) == 0)) else (none)) else (some false)) else (none)) else (some true))) = some r := by first | (rw [hy483]; with_reducible exact H) | (have H2_ := (Option.bind_some _ _).symm.trans H; rw [hy483]; with_reducible exact H2_) | (have H2_ := (Option.bind_some _ _).symm.trans H; with_reducible exact H2_) | with_reducible exact H | (rw [hy483]; exact H) | exact H
                        have Ny483 := Aside0.mk hy483
                        clear hy483
                        replace H := Option.bind_eq_some_iff.mp H
                        obtain ⟨⟨t484, t485, t486, t489⟩, A940, H⟩ := H
                        replace H : (if t489 = 0 then (if 6 < (t461.length : Int) then (if (rd y483 6) = 0 then (if 7 < (t461.length : Int) then (some ((rd y483 7) == 0)) else (none)) else (some false)) else (none)) else (some true)) = some r := H
                        have A94 := Aside0.mk A940
                        clear A940
                        by_cases c95 : t489 = 0
                        · rw [if_pos c95] at H
                          have c95b0 : (t489 == 0) = true := beq_iff_eq.mpr c95
                          have c95b1 : (t489 != 0) = false := bne_eq_false_iff_eq.mpr c95
                          clear c95
                          by_cases c96 : 6 < (t461.length : Int)
                          · rw [if_pos c96] at H
                            have c96b0 : decide (6 < (t461.length : Int)) = true := decide_eq_true c96
                            have c96b1 : decide (6 < t461.length) = true := decide_eq_true (by omega)
                            clear c96
                            by_cases c97 : (rd y483 6) = 0
                            · rw [if_pos c97] at H
                              have c97b0 : ((rd y483 6) == 0) = true := beq_iff_eq.mpr c97
                              have c97b1 : ((rd y483 6) != 0) = false := bne_eq_false_iff_eq.mpr c97
                              clear c97
                              by_cases c98 : 7 < (t461.length : Int)
                              · rw [if_pos c98] at H
                                have c98b0 : decide (7 < (t461.length : Int)) = true := decide_eq_true c98
                                have c98b1 : decide (7 < t461.length) = true := decide_eq_true (by omega)
                                clear c98
                                obtain rfl := Option.some.inj H
                                try go_wp2
                                have n0_ := Aside0.mk (Kd.R_drew HO_8.out)
                                have n1_ := Aside0.mk (Kd.R_drew HO_461002.out)
                                have n2_ := Aside0.mk (Kd.R_drew HO_476002.out)
                                have n3_ := Aside0.mk (blk_drew BK460.out)
                                have n4_ := Aside0.mk (blk_drew BK475.out)
                                have n5_ := Aside0.mk (below_drew1 HB.out)
                                clear HO_8
                                clear HO_461002
                                clear HO_476002
                                clear BK460
                                clear BK475
                                clear HB
                                have HO_8 := n0_
                                have HO_461002 := n1_
                                have HO_476002 := n2_
                                have BK460 := n3_
                                have BK475 := n4_
                                have HB := n5_
                                clear n0_ n1_ n2_ n3_ n4_ n5_
                                have p481 : 0 ≤ (t480 : Int) := of_decide_eq_true (by first | (with_reducible assumption) | assumption)
                                have q481 : t480 < (t461.length : Int) := of_decide_eq_true (by first | (with_reducible assumption) | assumption)
                                obtain ⟨ad481, e481, hx481_0⟩ := Kd.at_int (Kd.R_reads' HO_8.out).2.2 t480 p481 q481
                                cases e481
                                replace p481 := eq_true p481
                                replace q481 := eq_true q481
                                refine start_ (n := 14) (S := fun w' => w'.cell? (ad481.add (t480).toNat) = some (.int .u8 (rd t461 t480))) (ds := [13]) #[false, false, false, false, false, false, false, false, false, false, false, false, false, false] (by kernel_rfl) rfl rfl (hx481_0) (fun hHeld => ?_); refine with_tabW laws_FnUdp.tab14 laws_FnUdp.bits14 (fun HT_ HW_ => ?_)
                                generalize wc.drew = w99 at HO_8 HO_461002 HO_476002 BK460 BK475 HB hx481_0 hHeld ⊢
                                refine pure_ (i := 0) (N := some 116) (v := ?_) (a' := ?_) #[true, false, false, false, false, false, false, false, false, false, false, false, false, false] rfl rfl (any_of HT_.out (by kernel_rfl)) (fun _ _ _ h => h) (Or.inl ⟨by rfl, ?_⟩) ?_ ?_
                                rotate_left
                                · intro w'
                                  go_simp
                                  with_reducible rfl
                                rotate_left
                                · simp only [Act.put, List.setIfInBounds_toArray, List.set_cons_zero, List.set_cons_succ, i64_w, i32_w]
                                  rfl
                                refine pure_ (i := 1) (N := some 117) (v := ?_) (a' := ?_) #[true, true, false, false, false, false, false, false, false, false, false, false, false, false] rfl rfl (any_of HT_.out (by kernel_rfl)) (fun _ _ _ h => h) (Or.inl ⟨by rfl, ?_⟩) ?_ ?_
                                rotate_left
                                · intro w'
                                  go_simp
                                  with_reducible rfl
                                rotate_left
                                · simp only [Act.put, List.setIfInBounds_toArray, List.set_cons_zero, List.set_cons_succ, i64_w, i32_w]
                                  rfl
                                refine pure_ (i := 2) (N := some 118) (v := ?_) (a' := ?_) #[true, true, true, false, false, false, false, false, false, false, false, false, false, false] rfl rfl (any_of HT_.out (by kernel_rfl)) (fun _ _ _ h => h) (Or.inl ⟨by rfl, ?_⟩) ?_ ?_
                                rotate_left
                                · intro w'
                                  go_simp
                                  with_reducible rfl
                                rotate_left
                                · simp only [Act.put, List.setIfInBounds_toArray, List.set_cons_zero, List.set_cons_succ, i64_w, i32_w]
                                  rfl
                                refine pure_ (i := 3) (N := some 119) (v := ?_) (a' := ?_) #[true, true, true, true, false, false, false, false, false, false, false, false, false, false] rfl rfl (any_of HT_.out (by kernel_rfl)) (fun _ _ _ h => h) (Or.inl ⟨by rfl, ?_⟩) ?_ ?_
                                rotate_left
                                · intro w'
                                  go_simp
                                  with_reducible rfl
                                rotate_left
                                · simp only [Act.put, List.setIfInBounds_toArray, List.set_cons_zero, List.set_cons_succ, i64_w, i32_w]
                                  rfl
                                refine pure_ (i := 7) (N := some 123) (v := ?_) (a' := ?_) #[true, true, true, true, false, false, false, true, false, false, false, false, false, false] rfl rfl (any_of HT_.out (by kernel_rfl)) (fun _ _ _ h => h) (Or.inl ⟨by rfl, ?_⟩) ?_ ?_
                                rotate_left
                                · intro w'
                                  go_simp
                                  with_reducible rfl
                                rotate_left
                                · simp only [Act.put, List.setIfInBounds_toArray, List.set_cons_zero, List.set_cons_succ, i64_w, i32_w]
                                  rfl
                                refine one_ (i := 4) (N := some 120) #[true, true, true, true, true, false, false, true, false, false, false, false, false, false] rfl rfl (one_of HT_.out (by kernel_rfl)) (by decide) (fun K hK => ?_)
                                refine goes_ Try.func39 (by kernel_rfl) rfl #[.slice A1 l1.length c1, .int .i64 0, .int .i64 (t461.length : Int)] (by rfl) rfl rfl (by (try simp only [List.map_toArray, List.map_cons, List.map_nil]); first | done | rfl | (simp only [List.length_drop, List.length_take]; rfl)) ?_
                                with_reducible refine (laws_at.calls _ _ l1 0 (t461.length : Int) t480 _ ?side1 ?side2 A89.out).mono ?_
                                (case side1 => repeat (first | exact (Kd.C_below HR1.out HB.out) | (with_reducible refine Kd.C_alloc ?_ _) | (with_reducible refine Kd.C_drewN ?_ _) | (with_reducible refine Kd.C_drew ?_)))
                                (case side2 => exact HC1.out)
                                rintro e w' ⟨rfl, ⟨nd, rfl⟩⟩
                                refine ⟨_, rfl, ?_⟩
                                refine hK.out _ _ (hHeld) (fun hHeld => ?_)
                                clear hK K
                                refine norm_ (a' := ?_) ?_ ?_
                                rotate_left
                                · show Act.put _ (some 120) _ = _
                                  simp only [Act.put, List.setIfInBounds_toArray, List.set_cons_zero, List.set_cons_succ, i64_w, i32_w]
                                  rfl
                                refine pure_ (i := 5) (N := some 121) (v := ?_) (a' := ?_) #[true, true, true, true, true, true, false, true, false, false, false, false, false, false] rfl rfl (any_of HT_.out (by kernel_rfl)) (fun _ _ _ h => h) (Or.inl ⟨by rfl, ?_⟩) ?_ ?_
                                rotate_left
                                · intro w'
                                  go_simp
                                  with_reducible rfl
                                rotate_left
                                · simp only [Act.put, List.setIfInBounds_toArray, List.set_cons_zero, List.set_cons_succ, i64_w, i32_w]
                                  rfl
                                refine take_ (i := 6) (N := some 122) (v := ?_) (a' := ?_) #[true, true, true, true, true, true, true, true, false, false, false, false, false, false] rfl rfl (take_ofW HT_.out HW_.out (by kernel_rfl)) (fun _ _ _ h => h) (Or.inl ⟨by rfl, ?_⟩) hHeld ?_ ?_
                                rotate_left
                                · intro w' s0
                                  go_simp
                                  with_reducible rfl
                                rotate_left
                                · simp only [Act.put, List.setIfInBounds_toArray, List.set_cons_zero, List.set_cons_succ, i64_w, i32_w]
                                  rfl
                                refine one_ (i := 8) (N := some 124) #[true, true, true, true, true, true, true, true, true, false, false, false, false, false] rfl rfl (one_of HT_.out (by kernel_rfl)) (by decide) (fun K hK => ?_)
                                refine goes_ Try.func39 (by kernel_rfl) rfl #[.slice A1 l1.length c1, .int .i64 1, .int .i64 255] (by rfl) rfl rfl (by (try simp only [List.map_toArray, List.map_cons, List.map_nil]); first | done | rfl | (simp only [List.length_drop, List.length_take]; rfl)) ?_
                                with_reducible refine (laws_at.calls _ _ l1 1 255 t482 _ ?side1 ?side2 A92.out).mono ?_
                                (case side1 => repeat (first | exact (Kd.C_below HR1.out (by repeat (first | (with_reducible first | exact HB.out | apply below_alloc | apply pw_below_drewN | apply below_drew1 | refine below_set ?_ GE460.out | refine below_set ?_ GE475.out) | exact HB.out))) | (with_reducible refine Kd.C_alloc ?_ _) | (with_reducible refine Kd.C_drewN ?_ _) | (with_reducible refine Kd.C_drew ?_)))
                                (case side2 => exact HC1.out)
                                rintro e w' ⟨rfl, ⟨nd, rfl⟩⟩
                                refine ⟨_, rfl, ?_⟩
                                have p93 : 0 ≤ (t480 : Int) := of_decide_eq_true (by first | (with_reducible assumption) | assumption)
                                have q93 : (t480 : Int) < ((t461.length : Int) : Int) := of_decide_eq_true (by first | (with_reducible assumption) | assumption)
                                obtain ⟨go93, co93, eo93, gb93, gl93, cl93, HG93⟩ := Kd.R_form HO_8.out (by omega)
                                (first | cases eo93 | (injection eo93 with ea_ en_ ec_; (first | subst ea_ | (injection ea_ with ea_; subst ea_)); subst ec_; clear en_))
                                have GB93 := Aside0.mk gb93
                                have GG93 := Aside0.mk HG93
                                clear gb93 gl93 HG93
                                (first | simp only [add_plain] at hx481_0 | skip)
                                obtain ⟨hx93_0, hf93_0⟩ := Kd.R_celln 0 HO_8.out (t480 : Int) p93 q93
                                replace p93 := eq_true p93
                                replace q93 := eq_true q93
                                have HP100 := Kd.R_putn HO_8.out (t480 : Int) (Go.bits .xor .u8 (rd t461 t480) ((wrap64 (1 + t482)) % 256))
                                rw [← Ny483.out] at HP100
                                have HQ100 := Aside0.mk HP100
                                clear HP100
                                refine hK.out _ _ (hHeld) (fun hHeld => ?_)
                                clear hK K
                                refine norm_ (a' := ?_) ?_ ?_
                                rotate_left
                                · show Act.put _ (some 124) _ = _
                                  simp only [Act.put, List.setIfInBounds_toArray, List.set_cons_zero, List.set_cons_succ, i64_w, i32_w]
                                  rfl
                                refine pure_ (i := 9) (N := some 125) (v := ?_) (a' := ?_) #[true, true, true, true, true, true, true, true, true, true, false, false, false, false] rfl rfl (any_of HT_.out (by kernel_rfl)) (fun _ _ _ h => h) (Or.inl ⟨by rfl, ?_⟩) ?_ ?_
                                rotate_left
                                · intro w'
                                  go_simp
                                  with_reducible rfl
                                rotate_left
                                · simp only [Act.put, List.setIfInBounds_toArray, List.set_cons_zero, List.set_cons_succ, i64_w, i32_w]
                                  rfl
                                refine pure_ (i := 10) (N := some 126) (v := ?_) (a' := ?_) #[true, true, true, true, true, true, true, true, true, true, true, false, false, false] rfl rfl (any_of HT_.out (by kernel_rfl)) (fun _ _ _ h => h) (Or.inl ⟨by rfl, ?_⟩) ?_ ?_
                                rotate_left
                                · intro w'
                                  go_simp
                                  with_reducible rfl
                                rotate_left
                                · simp only [Act.put, List.setIfInBounds_toArray, List.set_cons_zero, List.set_cons_succ, i64_w, i32_w]
                                  rfl
                                refine pure_ (i := 11) (N := some 127) (v := ?_) (a' := ?_) #[true, true, true, true, true, true, true, true, true, true, true, true, false, false] rfl rfl (any_of HT_.out (by kernel_rfl)) (fun _ _ _ h => h) (Or.inl ⟨by rfl, ?_⟩) ?_ ?_
                                rotate_left
                                · intro w'
                                  go_simp
                                  with_reducible rfl
                                rotate_left
                                · simp only [Act.put, List.setIfInBounds_toArray, List.set_cons_zero, List.set_cons_succ, i64_w, i32_w]
                                  rfl
                                refine pure_ (i := 12) (N := some 128) (v := ?_) (a' := ?_) #[true, true, true, true, true, true, true, true, true, true, true, true, true, false] rfl rfl (any_of HT_.out (by kernel_rfl)) (fun _ _ _ h => h) (Or.inl ⟨by rfl, ?_⟩) ?_ ?_
                                rotate_left
                                · intro w'
                                  go_simp
                                  with_reducible rfl
                                rotate_left
                                · simp only [Act.put, List.setIfInBounds_toArray, List.set_cons_zero, List.set_cons_succ, i64_w, i32_w]
                                  rfl
                                refine last_ (i := 13) (N := none) #[true, true, true, true, true, true, true, true, true, true, true, true, true, true] rfl rfl (one_of HT_.out (by kernel_rfl)) (by decide) (fun K hK => ?_)
                                refine skip_ (w1 := ?_) (by rfl) rfl ?_ ?_
                                rotate_left
                                · go_simp
                                  rfl
                                refine hK.out _ _ ?_
                                clear hK K
                                refine done_ (done_of HT_.out (by kernel_rfl)) ?_
                                (try simp only [World.drewN_drewN, IntKind.wrap_u8])
                                (try (rw [drewN_self w99]; generalize hq_ : World.drewN w99 _ = w99; have m0_ : Aside0 (Kd.R (Kd.int .u8) 5 (w99.setCell ⟨go93, (t480 : Int).toNat, none⟩ (.int .u8 (Go.bits .xor .u8 (rd t461 t480) ((wrap64 (1 + t482)) % 256)))) w.heap.size (fun k_ => some k_ ≠ (.slice Ao16 t457.length co16 : Value).ownBlock ∧ some k_ ≠ (.slice Ao25 t471.length co25 : Value).ownBlock) (.slice (some ⟨go93, 0, none⟩) t461.length co20) y483) := ⟨by rw [← hq_]; exact Kd.R_drewN HQ100.out _⟩; have m1_ := Aside0.mk (Kd.R_at hq_ HO_461002.out); have m2_ := Aside0.mk (Kd.R_at hq_ HO_476002.out); have m3_ := Aside0.mk (Kd.R_at hq_ HO_8.out); have m4_ := Aside0.mk (blk_at hq_ BK460.out); have m5_ := Aside0.mk (blk_at hq_ BK475.out); have m6_ := Aside0.mk (below_at hq_ HB.out); clear hq_ HQ100 HO_461002 HO_476002 HO_8 BK460 BK475 HB; have HQ100 := m0_; have HO_461002 := m1_; have HO_476002 := m2_; have HO_8 := m3_; have BK460 := m4_; have BK475 := m5_; have HB := m6_; clear m0_ m1_ m2_ m3_ m4_ m5_ m6_))
                                have n0_ : Aside0 (Kd.R (Kd.int .u8) 5 (w99.setCell ⟨go93, (t480 : Int).toNat, none⟩ (.int .u8 (Go.bits .xor .u8 (rd t461 t480) ((wrap64 (1 + t482)) % 256)))) w.heap.size (fun k_ => some k_ ≠ (.slice Ao16 t457.length co16 : Value).ownBlock ∧ some k_ ≠ (.slice Ao25 t471.length co25 : Value).ownBlock) (.slice (some ⟨go93, 0, none⟩) t461.length co20) y483) := ⟨by (with_reducible repeat (first | apply Kd.R_alloc | apply Kd.R_drewN | apply Kd.R_drew)); exact HQ100.out⟩
                                have n1_ : Aside0 (Kd.R (Kd.int .u8) 5 (w99.setCell ⟨go93, (t480 : Int).toNat, none⟩ (.int .u8 (Go.bits .xor .u8 (rd t461 t480) ((wrap64 (1 + t482)) % 256)))) w.heap.size (fun k_ => some k_ ≠ (.slice (some ⟨go93, 0, none⟩) t461.length co20 : Value).ownBlock ∧ some k_ ≠ (.slice Ao25 t471.length co25 : Value).ownBlock) (.slice Ao16 t457.length co16) t457) := ⟨by (with_reducible repeat (first | apply Kd.R_alloc | apply Kd.R_drewN | apply Kd.R_drew)); exact Kd.R_mono (Kd.R_far (p := ⟨go93, (t480 : Int).toNat, none⟩) (Kd.R_mono HO_461002.out (fun k_ hk => (⟨hk, fun e_ => hk.1 (by rw [e_]; rfl)⟩ : _ ∧ k_ ≠ go93))) (fun _ hk => hk.2) (.int .u8 (Go.bits .xor .u8 (rd t461 t480) ((wrap64 (1 + t482)) % 256)))) (fun _ hk => ⟨hk.1.1, hk.1.2⟩)⟩
                                have n2_ : Aside0 (Kd.R (Kd.int .u8) 5 (w99.setCell ⟨go93, (t480 : Int).toNat, none⟩ (.int .u8 (Go.bits .xor .u8 (rd t461 t480) ((wrap64 (1 + t482)) % 256)))) w.heap.size (fun k_ => some k_ ≠ (.slice (some ⟨go93, 0, none⟩) t461.length co20 : Value).ownBlock ∧ some k_ ≠ (.slice Ao16 t457.length co16 : Value).ownBlock) (.slice Ao25 t471.length co25) t471) := ⟨by (with_reducible repeat (first | apply Kd.R_alloc | apply Kd.R_drewN | apply Kd.R_drew)); exact Kd.R_mono (Kd.R_far (p := ⟨go93, (t480 : Int).toNat, none⟩) (Kd.R_mono HO_476002.out (fun k_ hk => (⟨hk, fun e_ => hk.1 (by rw [e_]; rfl)⟩ : _ ∧ k_ ≠ go93))) (fun _ hk => hk.2) (.int .u8 (Go.bits .xor .u8 (rd t461 t480) ((wrap64 (1 + t482)) % 256)))) (fun _ hk => ⟨hk.1.1, hk.1.2⟩)⟩
                                have n3_ : Aside0 ((w99.setCell ⟨go93, (t480 : Int).toNat, none⟩ (.int .u8 (Go.bits .xor .u8 (rd t461 t480) ((wrap64 (1 + t482)) % 256)))).heap[gb460]? = some (.cells #[.int .i64 t455, .int .i64 t456, .slice Ao16 t457.length co16] 52 (0, 0))) := ⟨by (with_reducible repeat (first | refine blk_drewN ?_ _ | refine blk_drew ?_ | refine blk_alloc ?_ _)); refine blk_far ?_ (by have h_ := Kd.R_ne HO_8.out BK460.out (by decide); intro e_; exact h_ (by rw [e_]; rfl)) _; (with_reducible repeat (first | refine blk_drewN ?_ _ | refine blk_drew ?_ | refine blk_alloc ?_ _)); exact BK460.out⟩
                                have n4_ : Aside0 ((w99.setCell ⟨go93, (t480 : Int).toNat, none⟩ (.int .u8 (Go.bits .xor .u8 (rd t461 t480) ((wrap64 (1 + t482)) % 256)))).heap[gb475]? = some (.cells #[.int .i64 t469, .int .i64 t470, .slice Ao25 t471.length co25] 52 (0, 0))) := ⟨by (with_reducible repeat (first | refine blk_drewN ?_ _ | refine blk_drew ?_ | refine blk_alloc ?_ _)); refine blk_far ?_ (by have h_ := Kd.R_ne HO_8.out BK475.out (by decide); intro e_; exact h_ (by rw [e_]; rfl)) _; (with_reducible repeat (first | refine blk_drewN ?_ _ | refine blk_drew ?_ | refine blk_alloc ?_ _)); exact BK475.out⟩
                                have n5_ : Aside0 (Below w.heap.size w (w99.setCell ⟨go93, (t480 : Int).toNat, none⟩ (.int .u8 (Go.bits .xor .u8 (rd t461 t480) ((wrap64 (1 + t482)) % 256))))) := ⟨by repeat (first | (with_reducible first | exact HB.out | apply below_alloc | apply pw_below_drewN | apply below_drew1 | refine below_set ?_ GB93.out | refine below_set ?_ GE460.out | refine below_set ?_ GE475.out) | exact HB.out)⟩
                                (try clear HO_8)
                                (try clear HO_461002)
                                (try clear HO_476002)
                                (try clear BK460)
                                (try clear BK475)
                                (try clear HB)
                                generalize (w99.setCell ⟨go93, (t480 : Int).toNat, none⟩ (.int .u8 (Go.bits .xor .u8 (rd t461 t480) ((wrap64 (1 + t482)) % 256)))) = w101 at n0_ n1_ n2_ n3_ n4_ n5_ ⊢
                                have HO_8 := n0_
                                have HO_461002 := n1_
                                have HO_476002 := n2_
                                have BK460 := n3_
                                have BK475 := n4_
                                have HB := n5_
                                clear n0_ n1_ n2_ n3_ n4_ n5_
                                try go_wp2_with (first | ((with_reducible refine gate_callee (f := 36) rfl ?_); refine goesL_ (some 133) rfl rfl Try.func36 (by kernel_rfl) rfl #[.string t453, .string t454, .slice (some ⟨go93, 0, none⟩) y483.length co20] rfl (by (try simp only [List.map_toArray, List.map_cons, List.map_nil]); first | done | (rw [show y483.length = t461.length from (Kd.R_reads' HO_8.out).1.symm] <;> rfl) | rfl | (simp only [List.length_drop, List.length_take]; rfl)) ?_; (with_reducible refine (impl_ReadUdp.calls kj82 t453 t454 _ _ y483 t484 t485 t486 t489 _ ?side1 ?side2 A94.out).mono ?_); (case side1 => repeat (first | exact (Kd.R_reads' HO_8.out).2.2 | (with_reducible refine Kd.C_alloc ?_ _) | (with_reducible refine Kd.C_drewN ?_ _) | (with_reducible refine Kd.C_drew ?_))); (case side2 => rw [show y483.length = t461.length from (Kd.R_reads' HO_8.out).1.symm]; exact (Kd.R_reads' HO_8.out).2.1); rintro e w102 ⟨v487, rfl, ho0, hb⟩; refine ⟨_, rfl, ?_⟩; have n0_ := Aside0.mk (Kd.R_elder' (by (with_reducible repeat (first | apply Kd.R_alloc | apply Kd.R_drewN | apply Kd.R_drew)); exact HO_8.out) (Kd.R_base ho0) hb); have n1_ := Aside0.mk (Kd.R_elder' (by (with_reducible repeat (first | apply Kd.R_alloc | apply Kd.R_drewN | apply Kd.R_drew)); exact HO_461002.out) (Kd.R_base ho0) hb); have n2_ := Aside0.mk (Kd.R_elder' (by (with_reducible repeat (first | apply Kd.R_alloc | apply Kd.R_drewN | apply Kd.R_drew)); exact HO_476002.out) (Kd.R_base ho0) hb); have n3_ := Aside0.mk (Kd.R_lower (Kd.R_new' (Kd.R_new' (Kd.R_new' ho0 (Kd.R_lt (by (with_reducible repeat (first | apply Kd.R_alloc | apply Kd.R_drewN | apply Kd.R_drew)); exact HO_8.out))) (Kd.R_lt (by (with_reducible repeat (first | apply Kd.R_alloc | apply Kd.R_drewN | apply Kd.R_drew)); exact HO_461002.out))) (Kd.R_lt (by (with_reducible repeat (first | apply Kd.R_alloc | apply Kd.R_drewN | apply Kd.R_drew)); exact HO_476002.out))) (below_size (by repeat (first | (with_reducible first | exact HB.out | apply below_alloc | apply pw_below_drewN | apply below_drew1 | refine below_set ?_ GE460.out | refine below_set ?_ GE475.out) | exact HB.out)))); have n4_ := Aside0.mk (blk_below (g := gb460) (o := .cells #[.int .i64 t455, .int .i64 t456, .slice Ao16 t457.length co16] 52 (0, 0)) (by (with_reducible repeat (first | refine blk_drewN ?_ _ | refine blk_drew ?_ | refine blk_alloc ?_ _)); exact BK460.out) hb); have n5_ := Aside0.mk (blk_below (g := gb475) (o := .cells #[.int .i64 t469, .int .i64 t470, .slice Ao25 t471.length co25] 52 (0, 0)) (by (with_reducible repeat (first | refine blk_drewN ?_ _ | refine blk_drew ?_ | refine blk_alloc ?_ _)); exact BK475.out) hb); have n6_ := Aside0.mk (below_step (by repeat (first | (with_reducible first | exact HB.out | apply below_alloc | apply pw_below_drewN | apply below_drew1 | refine below_set ?_ GE460.out | refine below_set ?_ GE475.out) | exact HB.out)) hb); clear HO_8; clear HO_461002; clear HO_476002; clear BK460; clear BK475; clear HB; have HO_8 := n0_; have HO_461002 := n1_; have HO_476002 := n2_; have HO488 := n3_; have BK460 := n4_; have BK475 := n5_; have HB := n6_; clear n0_ n1_ n2_ n3_ n4_ n5_ n6_; (try clear hb); (try clear hb2); (try clear hk); (try clear hi); (try clear ho0)) | ((with_reducible refine gate_dst (N := 18) rfl ?_); refine box_event ?hg (N := 18) ?hd (cs := #[.int .i64 0, .int .i64 0, .slice none 0 0]) (t := 52) ?hr ?_; (case hd => rfl); (case hg => rfl); (case hr => first | (go_simp; done) | (go_simp; rfl)); intro gb490 hg w103 hbox hb; have n0_ := Aside0.mk (Kd.R_below (by (with_reducible repeat (first | apply Kd.R_alloc | apply Kd.R_drewN | apply Kd.R_drew)); exact HO_8.out) hb); have n1_ := Aside0.mk (Kd.R_below (by (with_reducible repeat (first | apply Kd.R_alloc | apply Kd.R_drewN | apply Kd.R_drew)); exact HO_461002.out) hb); have n2_ := Aside0.mk (Kd.R_below (by (with_reducible repeat (first | apply Kd.R_alloc | apply Kd.R_drewN | apply Kd.R_drew)); exact HO_476002.out) hb); have n3_ := Aside0.mk (Kd.R_below (by (with_reducible repeat (first | apply Kd.R_alloc | apply Kd.R_drewN | apply Kd.R_drew)); exact HO488.out) hb); have n4_ := Aside0.mk (blk_below (g := gb460) (o := .cells #[.int .i64 t455, .int .i64 t456, .slice Ao16 t457.length co16] 52 (0, 0)) (by (with_reducible repeat (first | refine blk_drewN ?_ _ | refine blk_drew ?_ | refine blk_alloc ?_ _)); exact BK460.out) hb); have n5_ := Aside0.mk (blk_below (g := gb475) (o := .cells #[.int .i64 t469, .int .i64 t470, .slice Ao25 t471.length co25] 52 (0, 0)) (by (with_reducible repeat (first | refine blk_drewN ?_ _ | refine blk_drew ?_ | refine blk_alloc ?_ _)); exact BK475.out) hb); have n6_ := Aside0.mk (below_step (by repeat (first | (with_reducible first | exact HB.out | apply below_alloc | apply pw_below_drewN | apply below_drew1 | refine below_set ?_ GE460.out | refine below_set ?_ GE475.out) | exact HB.out)) hb); have n7_ := Aside0.mk (hbox); have n8_ := Aside0.mk ((by rw [hg]; exact (below_size (by repeat (first | (with_reducible first | exact HB.out | apply below_alloc | apply pw_below_drewN | apply below_drew1 | refine below_set ?_ GE460.out | refine below_set ?_ GE475.out) | exact HB.out))) : w.heap.size ≤ gb490)); have n9_ := Aside0.mk ((by rw [hg]; exact (below_size (by repeat (first | (with_reducible first | exact HB.out | apply below_alloc | apply pw_below_drewN | apply below_drew1 | refine below_set ?_ GE460.out | refine below_set ?_ GE475.out) | exact HB.out))) : w.heap.size ≤ gb490)); have n10_ := Aside0.mk ((by rw [hg]; exact Nat.ne_of_lt (blk_lt (g := gb460) (o := .cells #[.int .i64 t455, .int .i64 t456, .slice Ao16 t457.length co16] 52 (0, 0)) (by (with_reducible repeat (first | refine blk_drewN ?_ _ | refine blk_drew ?_ | refine blk_alloc ?_ _)); exact BK460.out)) : gb460 ≠ gb490)); have n11_ := Aside0.mk ((by rw [hg]; exact Nat.ne_of_gt (blk_lt (g := gb460) (o := .cells #[.int .i64 t455, .int .i64 t456, .slice Ao16 t457.length co16] 52 (0, 0)) (by (with_reducible repeat (first | refine blk_drewN ?_ _ | refine blk_drew ?_ | refine blk_alloc ?_ _)); exact BK460.out)) : gb490 ≠ gb460)); have n12_ := Aside0.mk ((by rw [hg]; exact Nat.ne_of_lt (blk_lt (g := gb475) (o := .cells #[.int .i64 t469, .int .i64 t470, .slice Ao25 t471.length co25] 52 (0, 0)) (by (with_reducible repeat (first | refine blk_drewN ?_ _ | refine blk_drew ?_ | refine blk_alloc ?_ _)); exact BK475.out)) : gb475 ≠ gb490)); have n13_ := Aside0.mk ((by rw [hg]; exact Nat.ne_of_gt (blk_lt (g := gb475) (o := .cells #[.int .i64 t469, .int .i64 t470, .slice Ao25 t471.length co25] 52 (0, 0)) (by (with_reducible repeat (first | refine blk_drewN ?_ _ | refine blk_drew ?_ | refine blk_alloc ?_ _)); exact BK475.out)) : gb490 ≠ gb475)); clear HO_8; clear HO_461002; clear HO_476002; clear HO488; clear BK460; clear BK475; clear HB; have HO_8 := n0_; have HO_461002 := n1_; have HO_476002 := n2_; have HO488 := n3_; have BK460 := n4_; have BK475 := n5_; have HB := n6_; have BK490 := n7_; have GW490 := n8_; have GE490 := n9_; have NB460_490 := n10_; have NB490_460 := n11_; have NB475_490 := n12_; have NB490_475 := n13_; clear n0_ n1_ n2_ n3_ n4_ n5_ n6_ n7_ n8_ n9_ n10_ n11_ n12_ n13_; clear hb hbox hg; have hnb104 := NB490_460.out; have hnc104 := NB460_490.out; have hnb105 := NB490_475.out; have hnc105 := NB475_490.out; have hcz106_0 : w103.cell? ⟨gb490, 0, none⟩ = some (.int .i64 0) := (blk_cell BK490.out 0).trans rfl; have hcz106_1 : w103.cell? ⟨gb490, 1, none⟩ = some (.int .i64 0) := (blk_cell BK490.out 1).trans rfl; have hcz106_2 : w103.cell? ⟨gb490, 2, none⟩ = some (.slice none 0 0) := (blk_cell BK490.out 2).trans rfl; have hfz106_0 := blk_frozen BK490.out 0; have hfz106_1 := blk_frozen BK490.out 1; have hfz106_2 := blk_frozen BK490.out 2; obtain ⟨Ao107, co107, eo107⟩ := Kd.R_slice HO488.out; subst eo107; have p491 : 0 ≤ (6 : Int) := (by omega); have q491 : 6 < (y483.length : Int) := (by have h_ : (6 : Int) < ((t461.length : Int) : Int) := of_decide_eq_true (by first | (with_reducible assumption) | assumption); first | (have e_ := (Kd.R_reads' HO_8.out).1; omega) | simpa only [Ny483.out, List.length_set] using h_); have ql491 : ((6 : Int) < ((t461.length : Int) : Int)) = True := eq_true (of_decide_eq_true (by first | (with_reducible assumption) | assumption)); (try have qn491 : (6 < t461.length) = True := eq_true (by have h_ : (6 : Int) < ((t461.length : Int) : Int) := of_decide_eq_true (by first | (with_reducible assumption) | assumption); omega)); obtain ⟨ad491, e491, hx491_0⟩ := Kd.at_int (Kd.R_reads' HO_8.out).2.2 6 p491 q491; obtain rfl : (⟨go93, 0, none⟩ : Addr) = ad491 := (by injection e491); (first | simp only [add_plain] at hx491_0 | simp only [add_at] at hx491_0 | simp only [Addr.add, Nat.zero_add] at hx491_0 | skip); have qi491 : (6 < y483.length) = True := eq_true (by omega); (try rw [show ((6 : Int)).toNat = 6 from rfl] at hx491_0); have hn491_0 : (⟨go93, 0, none⟩ : Addr).block ≠ gb490 := Kd.own_blk (Kd.R_ne HO_8.out BK490.out (by decide)); have hn491_1 : (⟨go93, 0, none⟩ : Addr).block ≠ gb490 := Kd.own_blk (Kd.R_ne HO_8.out BK490.out (by decide)); have hn491_2 : (⟨go93, 0, none⟩ : Addr).block ≠ gb490 := Kd.own_blk (Kd.R_ne HO_8.out BK490.out (by decide)); replace hx491_0 := (cell_far (p := ⟨gb490, 0, none⟩) (by first | (rw [add_block]; exact hn491_0) | (show (Addr.add _ _).block ≠ _; rw [add_block]; exact hn491_0) | exact hn491_0) (.int .i64 t484)).trans hx491_0; replace hx491_0 := (cell_far (p := ⟨gb490, 1, none⟩) (by first | (rw [add_block]; exact hn491_1) | (show (Addr.add _ _).block ≠ _; rw [add_block]; exact hn491_1) | exact hn491_1) (.int .i64 t485)).trans hx491_0; replace hx491_0 := (cell_far (p := ⟨gb490, 2, none⟩) (by first | (rw [add_block]; exact hn491_2) | (show (Addr.add _ _).block ≠ _; rw [add_block]; exact hn491_2) | exact hn491_2) (.slice Ao107 t486.length co107)).trans hx491_0; clear hn491_0; clear hn491_1; clear hn491_2; replace p491 := eq_true p491; replace q491 := eq_true q491; have p492 : 0 ≤ (7 : Int) := (by omega); have q492 : 7 < (y483.length : Int) := (by have h_ : (7 : Int) < ((t461.length : Int) : Int) := of_decide_eq_true (by first | (with_reducible assumption) | assumption); first | (have e_ := (Kd.R_reads' HO_8.out).1; omega) | simpa only [Ny483.out, List.length_set] using h_); have ql492 : ((7 : Int) < ((t461.length : Int) : Int)) = True := eq_true (of_decide_eq_true (by first | (with_reducible assumption) | assumption)); (try have qn492 : (7 < t461.length) = True := eq_true (by have h_ : (7 : Int) < ((t461.length : Int) : Int) := of_decide_eq_true (by first | (with_reducible assumption) | assumption); omega)); obtain ⟨ad492, e492, hx492_0⟩ := Kd.at_int (Kd.R_reads' HO_8.out).2.2 7 p492 q492; obtain rfl : (⟨go93, 0, none⟩ : Addr) = ad492 := (by injection e492); (first | simp only [add_plain] at hx492_0 | simp only [add_at] at hx492_0 | simp only [Addr.add, Nat.zero_add] at hx492_0 | skip); have qi492 : (7 < y483.length) = True := eq_true (by omega); (try rw [show ((7 : Int)).toNat = 7 from rfl] at hx492_0); have hn492_0 : (⟨go93, 0, none⟩ : Addr).block ≠ gb490 := Kd.own_blk (Kd.R_ne HO_8.out BK490.out (by decide)); have hn492_1 : (⟨go93, 0, none⟩ : Addr).block ≠ gb490 := Kd.own_blk (Kd.R_ne HO_8.out BK490.out (by decide)); have hn492_2 : (⟨go93, 0, none⟩ : Addr).block ≠ gb490 := Kd.own_blk (Kd.R_ne HO_8.out BK490.out (by decide)); replace hx492_0 := (cell_far (p := ⟨gb490, 0, none⟩) (by first | (rw [add_block]; exact hn492_0) | (show (Addr.add _ _).block ≠ _; rw [add_block]; exact hn492_0) | exact hn492_0) (.int .i64 t484)).trans hx492_0; replace hx492_0 := (cell_far (p := ⟨gb490, 1, none⟩) (by first | (rw [add_block]; exact hn492_1) | (show (Addr.add _ _).block ≠ _; rw [add_block]; exact hn492_1) | exact hn492_1) (.int .i64 t485)).trans hx492_0; replace hx492_0 := (cell_far (p := ⟨gb490, 2, none⟩) (by first | (rw [add_block]; exact hn492_2) | (show (Addr.add _ _).block ≠ _; rw [add_block]; exact hn492_2) | exact hn492_2) (.slice Ao107 t486.length co107)).trans hx492_0; clear hn492_0; clear hn492_1; clear hn492_2; replace p492 := eq_true p492; replace q492 := eq_true q492))
                                go_ret
                                exact ⟨by first | rfl | (simp [errW_none, errW_some] <;> rfl) | (simp [*, errW_none, errW_some] <;> rfl), by repeat (first | (with_reducible first | exact HB.out | apply below_alloc | apply pw_below_drewN | apply below_drew1 | refine below_set ?_ GE460.out | refine below_set ?_ GE475.out | refine below_set ?_ GE490.out) | exact HB.out)⟩
                              · rw [if_neg c98] at H
                                exact absurd H (by simp)
                            · rw [if_neg c97] at H
                              have c97b0 : ((rd y483 6) == 0) = false := beq_eq_false_iff_ne.mpr c97
                              have c97b1 : ((rd y483 6) != 0) = true := bne_iff_ne.mpr c97
                              obtain rfl := Option.some.inj H
                              try go_wp2
                              have n0_ := Aside0.mk (Kd.R_drew HO_8.out)
                              have n1_ := Aside0.mk (Kd.R_drew HO_461002.out)
                              have n2_ := Aside0.mk (Kd.R_drew HO_476002.out)
                              have n3_ := Aside0.mk (blk_drew BK460.out)
                              have n4_ := Aside0.mk (blk_drew BK475.out)
                              have n5_ := Aside0.mk (below_drew1 HB.out)
                              clear HO_8
                              clear HO_461002
                              clear HO_476002
                              clear BK460
                              clear BK475
                              clear HB
                              have HO_8 := n0_
                              have HO_461002 := n1_
                              have HO_476002 := n2_
                              have BK460 := n3_
                              have BK475 := n4_
                              have HB := n5_
                              clear n0_ n1_ n2_ n3_ n4_ n5_
                              have p481 : 0 ≤ (t480 : Int) := of_decide_eq_true (by first | (with_reducible assumption) | assumption)
                              have q481 : t480 < (t461.length : Int) := of_decide_eq_true (by first | (with_reducible assumption) | assumption)
                              obtain ⟨ad481, e481, hx481_0⟩ := Kd.at_int (Kd.R_reads' HO_8.out).2.2 t480 p481 q481
                              cases e481
                              replace p481 := eq_true p481
                              replace q481 := eq_true q481
                              refine start_ (n := 14) (S := fun w' => w'.cell? (ad481.add (t480).toNat) = some (.int .u8 (rd t461 t480))) (ds := [13]) #[false, false, false, false, false, false, false, false, false, false, false, false, false, false] (by kernel_rfl) rfl rfl (hx481_0) (fun hHeld => ?_); refine with_tabW laws_FnUdp.tab14 laws_FnUdp.bits14 (fun HT_ HW_ => ?_)
                              generalize wc.drew = w108 at HO_8 HO_461002 HO_476002 BK460 BK475 HB hx481_0 hHeld ⊢
                              refine pure_ (i := 0) (N := some 116) (v := ?_) (a' := ?_) #[true, false, false, false, false, false, false, false, false, false, false, false, false, false] rfl rfl (any_of HT_.out (by kernel_rfl)) (fun _ _ _ h => h) (Or.inl ⟨by rfl, ?_⟩) ?_ ?_
                              rotate_left
                              · intro w'
                                go_simp
                                with_reducible rfl
                              rotate_left
                              · simp only [Act.put, List.setIfInBounds_toArray, List.set_cons_zero, List.set_cons_succ, i64_w, i32_w]
                                rfl
                              refine pure_ (i := 1) (N := some 117) (v := ?_) (a' := ?_) #[true, true, false, false, false, false, false, false, false, false, false, false, false, false] rfl rfl (any_of HT_.out (by kernel_rfl)) (fun _ _ _ h => h) (Or.inl ⟨by rfl, ?_⟩) ?_ ?_
                              rotate_left
                              · intro w'
                                go_simp
                                with_reducible rfl
                              rotate_left
                              · simp only [Act.put, List.setIfInBounds_toArray, List.set_cons_zero, List.set_cons_succ, i64_w, i32_w]
                                rfl
                              refine pure_ (i := 2) (N := some 118) (v := ?_) (a' := ?_) #[true, true, true, false, false, false, false, false, false, false, false, false, false, false] rfl rfl (any_of HT_.out (by kernel_rfl)) (fun _ _ _ h => h) (Or.inl ⟨by rfl, ?_⟩) ?_ ?_
                              rotate_left
                              · intro w'
                                go_simp
                                with_reducible rfl
                              rotate_left
                              · simp only [Act.put, List.setIfInBounds_toArray, List.set_cons_zero, List.set_cons_succ, i64_w, i32_w]
                                rfl
                              refine pure_ (i := 3) (N := some 119) (v := ?_) (a' := ?_) #[true, true, true, true, false, false, false, false, false, false, false, false, false, false] rfl rfl (any_of HT_.out (by kernel_rfl)) (fun _ _ _ h => h) (Or.inl ⟨by rfl, ?_⟩) ?_ ?_
                              rotate_left
                              · intro w'
                                go_simp
                                with_reducible rfl
                              rotate_left
                              · simp only [Act.put, List.setIfInBounds_toArray, List.set_cons_zero, List.set_cons_succ, i64_w, i32_w]
                                rfl
                              refine pure_ (i := 7) (N := some 123) (v := ?_) (a' := ?_) #[true, true, true, true, false, false, false, true, false, false, false, false, false, false] rfl rfl (any_of HT_.out (by kernel_rfl)) (fun _ _ _ h => h) (Or.inl ⟨by rfl, ?_⟩) ?_ ?_
                              rotate_left
                              · intro w'
                                go_simp
                                with_reducible rfl
                              rotate_left
                              · simp only [Act.put, List.setIfInBounds_toArray, List.set_cons_zero, List.set_cons_succ, i64_w, i32_w]
                                rfl
                              refine one_ (i := 4) (N := some 120) #[true, true, true, true, true, false, false, true, false, false, false, false, false, false] rfl rfl (one_of HT_.out (by kernel_rfl)) (by decide) (fun K hK => ?_)
                              refine goes_ Try.func39 (by kernel_rfl) rfl #[.slice A1 l1.length c1, .int .i64 0, .int .i64 (t461.length : Int)] (by rfl) rfl rfl (by (try simp only [List.map_toArray, List.map_cons, List.map_nil]); first | done | rfl | (simp only [List.length_drop, List.length_take]; rfl)) ?_
                              with_reducible refine (laws_at.calls _ _ l1 0 (t461.length : Int) t480 _ ?side1 ?side2 A89.out).mono ?_
                              (case side1 => repeat (first | exact (Kd.C_below HR1.out HB.out) | (with_reducible refine Kd.C_alloc ?_ _) | (with_reducible refine Kd.C_drewN ?_ _) | (with_reducible refine Kd.C_drew ?_)))
                              (case side2 => exact HC1.out)
                              rintro e w' ⟨rfl, ⟨nd, rfl⟩⟩
                              refine ⟨_, rfl, ?_⟩
                              refine hK.out _ _ (hHeld) (fun hHeld => ?_)
                              clear hK K
                              refine norm_ (a' := ?_) ?_ ?_
                              rotate_left
                              · show Act.put _ (some 120) _ = _
                                simp only [Act.put, List.setIfInBounds_toArray, List.set_cons_zero, List.set_cons_succ, i64_w, i32_w]
                                rfl
                              refine pure_ (i := 5) (N := some 121) (v := ?_) (a' := ?_) #[true, true, true, true, true, true, false, true, false, false, false, false, false, false] rfl rfl (any_of HT_.out (by kernel_rfl)) (fun _ _ _ h => h) (Or.inl ⟨by rfl, ?_⟩) ?_ ?_
                              rotate_left
                              · intro w'
                                go_simp
                                with_reducible rfl
                              rotate_left
                              · simp only [Act.put, List.setIfInBounds_toArray, List.set_cons_zero, List.set_cons_succ, i64_w, i32_w]
                                rfl
                              refine take_ (i := 6) (N := some 122) (v := ?_) (a' := ?_) #[true, true, true, true, true, true, true, true, false, false, false, false, false, false] rfl rfl (take_ofW HT_.out HW_.out (by kernel_rfl)) (fun _ _ _ h => h) (Or.inl ⟨by rfl, ?_⟩) hHeld ?_ ?_
                              rotate_left
                              · intro w' s0
                                go_simp
                                with_reducible rfl
                              rotate_left
                              · simp only [Act.put, List.setIfInBounds_toArray, List.set_cons_zero, List.set_cons_succ, i64_w, i32_w]
                                rfl
                              refine one_ (i := 8) (N := some 124) #[true, true, true, true, true, true, true, true, true, false, false, false, false, false] rfl rfl (one_of HT_.out (by kernel_rfl)) (by decide) (fun K hK => ?_)
                              refine goes_ Try.func39 (by kernel_rfl) rfl #[.slice A1 l1.length c1, .int .i64 1, .int .i64 255] (by rfl) rfl rfl (by (try simp only [List.map_toArray, List.map_cons, List.map_nil]); first | done | rfl | (simp only [List.length_drop, List.length_take]; rfl)) ?_
                              with_reducible refine (laws_at.calls _ _ l1 1 255 t482 _ ?side1 ?side2 A92.out).mono ?_
                              (case side1 => repeat (first | exact (Kd.C_below HR1.out (by repeat (first | (with_reducible first | exact HB.out | apply below_alloc | apply pw_below_drewN | apply below_drew1 | refine below_set ?_ GE460.out | refine below_set ?_ GE475.out) | exact HB.out))) | (with_reducible refine Kd.C_alloc ?_ _) | (with_reducible refine Kd.C_drewN ?_ _) | (with_reducible refine Kd.C_drew ?_)))
                              (case side2 => exact HC1.out)
                              rintro e w' ⟨rfl, ⟨nd, rfl⟩⟩
                              refine ⟨_, rfl, ?_⟩
                              have p93 : 0 ≤ (t480 : Int) := of_decide_eq_true (by first | (with_reducible assumption) | assumption)
                              have q93 : (t480 : Int) < ((t461.length : Int) : Int) := of_decide_eq_true (by first | (with_reducible assumption) | assumption)
                              obtain ⟨go93, co93, eo93, gb93, gl93, cl93, HG93⟩ := Kd.R_form HO_8.out (by omega)
                              (first | cases eo93 | (injection eo93 with ea_ en_ ec_; (first | subst ea_ | (injection ea_ with ea_; subst ea_)); subst ec_; clear en_))
                              have GB93 := Aside0.mk gb93
                              have GG93 := Aside0.mk HG93
                              clear gb93 gl93 HG93
                              (first | simp only [add_plain] at hx481_0 | skip)
                              obtain ⟨hx93_0, hf93_0⟩ := Kd.R_celln 0 HO_8.out (t480 : Int) p93 q93
                              replace p93 := eq_true p93
                              replace q93 := eq_true q93
                              have HP109 := Kd.R_putn HO_8.out (t480 : Int) (Go.bits .xor .u8 (rd t461 t480) ((wrap64 (1 + t482)) % 256))
                              rw [← Ny483.out] at HP109
                              have HQ109 := Aside0.mk HP109
                              clear HP109
                              refine hK.out _ _ (hHeld) (fun hHeld => ?_)
                              clear hK K
                              refine norm_ (a' := ?_) ?_ ?_
                              rotate_left
                              · show Act.put _ (some 124) _ = _
                                simp only [Act.put, List.setIfInBounds_toArray, List.set_cons_zero, List.set_cons_succ, i64_w, i32_w]
                                rfl
                              refine pure_ (i := 9) (N := some 125) (v := ?_) (a' := ?_) #[true, true, true, true, true, true, true, true, true, true, false, false, false, false] rfl rfl (any_of HT_.out (by kernel_rfl)) (fun _ _ _ h => h) (Or.inl ⟨by rfl, ?_⟩) ?_ ?_
                              rotate_left
                              · intro w'
                                go_simp
                                with_reducible rfl
                              rotate_left
                              · simp only [Act.put, List.setIfInBounds_toArray, List.set_cons_zero, List.set_cons_succ, i64_w, i32_w]
                                rfl
                              refine pure_ (i := 10) (N := some 126) (v := ?_) (a' := ?_) #[true, true, true, true, true, true, true, true, true, true, true, false, false, false] rfl rfl (any_of HT_.out (by kernel_rfl)) (fun _ _ _ h => h) (Or.inl ⟨by rfl, ?_⟩) ?_ ?_
                              rotate_left
                              · intro w'
                                go_simp
                                with_reducible rfl
                              rotate_left
                              · simp only [Act.put, List.setIfInBounds_toArray, List.set_cons_zero, List.set_cons_succ, i64_w, i32_w]
                                rfl
                              refine pure_ (i := 11) (N := some 127) (v := ?_) (a' := ?_) #[true, true, true, true, true, true, true, true, true, true, true, true, false, false] rfl rfl (any_of HT_.out (by kernel_rfl)) (fun _ _ _ h => h) (Or.inl ⟨by rfl, ?_⟩) ?_ ?_
                              rotate_left
                              · intro w'
                                go_simp
                                with_reducible rfl
                              rotate_left
                              · simp only [Act.put, List.setIfInBounds_toArray, List.set_cons_zero, List.set_cons_succ, i64_w, i32_w]
                                rfl
                              refine pure_ (i := 12) (N := some 128) (v := ?_) (a' := ?_) #[true, true, true, true, true, true, true, true, true, true, true, true, true, false] rfl rfl (any_of HT_.out (by kernel_rfl)) (fun _ _ _ h => h) (Or.inl ⟨by rfl, ?_⟩) ?_ ?_
                              rotate_left
                              · intro w'
                                go_simp
                                with_reducible rfl
                              rotate_left
                              · simp only [Act.put, List.setIfInBounds_toArray, List.set_cons_zero, List.set_cons_succ, i64_w, i32_w]
                                rfl
                              refine last_ (i := 13) (N := none) #[true, true, true, true, true, true, true, true, true, true, true, true, true, true] rfl rfl (one_of HT_.out (by kernel_rfl)) (by decide) (fun K hK => ?_)
                              refine skip_ (w1 := ?_) (by rfl) rfl ?_ ?_
                              rotate_left
                              · go_simp
                                rfl
                              refine hK.out _ _ ?_
                              clear hK K
                              refine done_ (done_of HT_.out (by kernel_rfl)) ?_
                              (try simp only [World.drewN_drewN, IntKind.wrap_u8])
                              (try (rw [drewN_self w108]; generalize hq_ : World.drewN w108 _ = w108; have m0_ : Aside0 (Kd.R (Kd.int .u8) 5 (w108.setCell ⟨go93, (t480 : Int).toNat, none⟩ (.int .u8 (Go.bits .xor .u8 (rd t461 t480) ((wrap64 (1 + t482)) % 256)))) w.heap.size (fun k_ => some k_ ≠ (.slice Ao16 t457.length co16 : Value).ownBlock ∧ some k_ ≠ (.slice Ao25 t471.length co25 : Value).ownBlock) (.slice (some ⟨go93, 0, none⟩) t461.length co20) y483) := ⟨by rw [← hq_]; exact Kd.R_drewN HQ109.out _⟩; have m1_ := Aside0.mk (Kd.R_at hq_ HO_461002.out); have m2_ := Aside0.mk (Kd.R_at hq_ HO_476002.out); have m3_ := Aside0.mk (Kd.R_at hq_ HO_8.out); have m4_ := Aside0.mk (blk_at hq_ BK460.out); have m5_ := Aside0.mk (blk_at hq_ BK475.out); have m6_ := Aside0.mk (below_at hq_ HB.out); clear hq_ HQ109 HO_461002 HO_476002 HO_8 BK460 BK475 HB; have HQ109 := m0_; have HO_461002 := m1_; have HO_476002 := m2_; have HO_8 := m3_; have BK460 := m4_; have BK475 := m5_; have HB := m6_; clear m0_ m1_ m2_ m3_ m4_ m5_ m6_))
                              have n0_ : Aside0 (Kd.R (Kd.int .u8) 5 (w108.setCell ⟨go93, (t480 : Int).toNat, none⟩ (.int .u8 (Go.bits .xor .u8 (rd t461 t480) ((wrap64 (1 + t482)) % 256)))) w.heap.size (fun k_ => some k_ ≠ (.slice Ao16 t457.length co16 : Value).ownBlock ∧ some k_ ≠ (.slice Ao25 t471.length co25 : Value).ownBlock) (.slice (some ⟨go93, 0, none⟩) t461.length co20) y483) := ⟨by (with_reducible repeat (first | apply Kd.R_alloc | apply Kd.R_drewN | apply Kd.R_drew)); exact HQ109.out⟩
                              have n1_ : Aside0 (Kd.R (Kd.int .u8) 5 (w108.setCell ⟨go93, (t480 : Int).toNat, none⟩ (.int .u8 (Go.bits .xor .u8 (rd t461 t480) ((wrap64 (1 + t482)) % 256)))) w.heap.size (fun k_ => some k_ ≠ (.slice (some ⟨go93, 0, none⟩) t461.length co20 : Value).ownBlock ∧ some k_ ≠ (.slice Ao25 t471.length co25 : Value).ownBlock) (.slice Ao16 t457.length co16) t457) := ⟨by (with_reducible repeat (first | apply Kd.R_alloc | apply Kd.R_drewN | apply Kd.R_drew)); exact Kd.R_mono (Kd.R_far (p := ⟨go93, (t480 : Int).toNat, none⟩) (Kd.R_mono HO_461002.out (fun k_ hk => (⟨hk, fun e_ => hk.1 (by rw [e_]; rfl)⟩ : _ ∧ k_ ≠ go93))) (fun _ hk => hk.2) (.int .u8 (Go.bits .xor .u8 (rd t461 t480) ((wrap64 (1 + t482)) % 256)))) (fun _ hk => ⟨hk.1.1, hk.1.2⟩)⟩
                              have n2_ : Aside0 (Kd.R (Kd.int .u8) 5 (w108.setCell ⟨go93, (t480 : Int).toNat, none⟩ (.int .u8 (Go.bits .xor .u8 (rd t461 t480) ((wrap64 (1 + t482)) % 256)))) w.heap.size (fun k_ => some k_ ≠ (.slice (some ⟨go93, 0, none⟩) t461.length co20 : Value).ownBlock ∧ some k_ ≠ (.slice Ao16 t457.length co16 : Value).ownBlock) (.slice Ao25 t471.length co25) t471) := ⟨by (with_reducible repeat (first | apply Kd.R_alloc | apply Kd.R_drewN | apply Kd.R_drew)); exact Kd.R_mono (Kd.R_far (p := ⟨go93, (t480 : Int).toNat, none⟩) (Kd.R_mono HO_476002.out (fun k_ hk => (⟨hk, fun e_ => hk.1 (by rw [e_]; rfl)⟩ : _ ∧ k_ ≠ go93))) (fun _ hk => hk.2) (.int .u8 (Go.bits .xor .u8 (rd t461 t480) ((wrap64 (1 + t482)) % 256)))) (fun _ hk => ⟨hk.1.1, hk.1.2⟩)⟩
                              have n3_ : Aside0 ((w108.setCell ⟨go93, (t480 : Int).toNat, none⟩ (.int .u8 (Go.bits .xor .u8 (rd t461 t480) ((wrap64 (1 + t482)) % 256)))).heap[gb460]? = some (.cells #[.int .i64 t455, .int .i64 t456, .slice Ao16 t457.length co16] 52 (0, 0))) := ⟨by (with_reducible repeat (first | refine blk_drewN ?_ _ | refine blk_drew ?_ | refine blk_alloc ?_ _)); refine blk_far ?_ (by have h_ := Kd.R_ne HO_8.out BK460.out (by decide); intro e_; exact h_ (by rw [e_]; rfl)) _; (with_reducible repeat (first | refine blk_drewN ?_ _ | refine blk_drew ?_ | refine blk_alloc ?_ _)); exact BK460.out⟩
                              have n4_ : Aside0 ((w108.setCell ⟨go93, (t480 : Int).toNat, none⟩ (.int .u8 (Go.bits .xor .u8 (rd t461 t480) ((wrap64 (1 + t482)) % 256)))).heap[gb475]? = some (.cells #[.int .i64 t469, .int .i64 t470, .slice Ao25 t471.length co25] 52 (0, 0))) := ⟨by (with_reducible repeat (first | refine blk_drewN ?_ _ | refine blk_drew ?_ | refine blk_alloc ?_ _)); refine blk_far ?_ (by have h_ := Kd.R_ne HO_8.out BK475.out (by decide); intro e_; exact h_ (by rw [e_]; rfl)) _; (with_reducible repeat (first | refine blk_drewN ?_ _ | refine blk_drew ?_ | refine blk_alloc ?_ _)); exact BK475.out⟩
                              have n5_ : Aside0 (Below w.heap.size w (w108.setCell ⟨go93, (t480 : Int).toNat, none⟩ (.int .u8 (Go.bits .xor .u8 (rd t461 t480) ((wrap64 (1 + t482)) % 256))))) := ⟨by repeat (first | (with_reducible first | exact HB.out | apply below_alloc | apply pw_below_drewN | apply below_drew1 | refine below_set ?_ GB93.out | refine below_set ?_ GE460.out | refine below_set ?_ GE475.out) | exact HB.out)⟩
                              (try clear HO_8)
                              (try clear HO_461002)
                              (try clear HO_476002)
                              (try clear BK460)
                              (try clear BK475)
                              (try clear HB)
                              generalize (w108.setCell ⟨go93, (t480 : Int).toNat, none⟩ (.int .u8 (Go.bits .xor .u8 (rd t461 t480) ((wrap64 (1 + t482)) % 256)))) = w110 at n0_ n1_ n2_ n3_ n4_ n5_ ⊢
                              have HO_8 := n0_
                              have HO_461002 := n1_
                              have HO_476002 := n2_
                              have BK460 := n3_
                              have BK475 := n4_
                              have HB := n5_
                              clear n0_ n1_ n2_ n3_ n4_ n5_
                              try go_wp2_with (first | ((with_reducible refine gate_callee (f := 36) rfl ?_); refine goesL_ (some 133) rfl rfl Try.func36 (by kernel_rfl) rfl #[.string t453, .string t454, .slice (some ⟨go93, 0, none⟩) y483.length co20] rfl (by (try simp only [List.map_toArray, List.map_cons, List.map_nil]); first | done | (rw [show y483.length = t461.length from (Kd.R_reads' HO_8.out).1.symm] <;> rfl) | rfl | (simp only [List.length_drop, List.length_take]; rfl)) ?_; (with_reducible refine (impl_ReadUdp.calls kj82 t453 t454 _ _ y483 t484 t485 t486 t489 _ ?side1 ?side2 A94.out).mono ?_); (case side1 => repeat (first | exact (Kd.R_reads' HO_8.out).2.2 | (with_reducible refine Kd.C_alloc ?_ _) | (with_reducible refine Kd.C_drewN ?_ _) | (with_reducible refine Kd.C_drew ?_))); (case side2 => rw [show y483.length = t461.length from (Kd.R_reads' HO_8.out).1.symm]; exact (Kd.R_reads' HO_8.out).2.1); rintro e w111 ⟨v487, rfl, ho0, hb⟩; refine ⟨_, rfl, ?_⟩; have n0_ := Aside0.mk (Kd.R_elder' (by (with_reducible repeat (first | apply Kd.R_alloc | apply Kd.R_drewN | apply Kd.R_drew)); exact HO_8.out) (Kd.R_base ho0) hb); have n1_ := Aside0.mk (Kd.R_elder' (by (with_reducible repeat (first | apply Kd.R_alloc | apply Kd.R_drewN | apply Kd.R_drew)); exact HO_461002.out) (Kd.R_base ho0) hb); have n2_ := Aside0.mk (Kd.R_elder' (by (with_reducible repeat (first | apply Kd.R_alloc | apply Kd.R_drewN | apply Kd.R_drew)); exact HO_476002.out) (Kd.R_base ho0) hb); have n3_ := Aside0.mk (Kd.R_lower (Kd.R_new' (Kd.R_new' (Kd.R_new' ho0 (Kd.R_lt (by (with_reducible repeat (first | apply Kd.R_alloc | apply Kd.R_drewN | apply Kd.R_drew)); exact HO_8.out))) (Kd.R_lt (by (with_reducible repeat (first | apply Kd.R_alloc | apply Kd.R_drewN | apply Kd.R_drew)); exact HO_461002.out))) (Kd.R_lt (by (with_reducible repeat (first | apply Kd.R_alloc | apply Kd.R_drewN | apply Kd.R_drew)); exact HO_476002.out))) (below_size (by repeat (first | (with_reducible first | exact HB.out | apply below_alloc | apply pw_below_drewN | apply below_drew1 | refine below_set ?_ GE460.out | refine below_set ?_ GE475.out) | exact HB.out)))); have n4_ := Aside0.mk (blk_below (g := gb460) (o := .cells #[.int .i64 t455, .int .i64 t456, .slice Ao16 t457.length co16] 52 (0, 0)) (by (with_reducible repeat (first | refine blk_drewN ?_ _ | refine blk_drew ?_ | refine blk_alloc ?_ _)); exact BK460.out) hb); have n5_ := Aside0.mk (blk_below (g := gb475) (o := .cells #[.int .i64 t469, .int .i64 t470, .slice Ao25 t471.length co25] 52 (0, 0)) (by (with_reducible repeat (first | refine blk_drewN ?_ _ | refine blk_drew ?_ | refine blk_alloc ?_ _)); exact BK475.out) hb); have n6_ := Aside0.mk (below_step (by repeat (first | (with_reducible first | exact HB.out | apply below_alloc | apply pw_below_drewN | apply below_drew1 | refine below_set ?_ GE460.out | refine below_set ?_ GE475.out) | exact HB.out)) hb); clear HO_8; clear HO_461002; clear HO_476002; clear BK460; clear BK475; clear HB; have HO_8 := n0_; have HO_461002 := n1_; have HO_476002 := n2_; have HO488 := n3_; have BK460 := n4_; have BK475 := n5_; have HB := n6_; clear n0_ n1_ n2_ n3_ n4_ n5_ n6_; (try clear hb); (try clear hb2); (try clear hk); (try clear hi); (try clear ho0)) | ((with_reducible refine gate_dst (N := 18) rfl ?_); refine box_event ?hg (N := 18) ?hd (cs := #[.int .i64 0, .int .i64 0, .slice none 0 0]) (t := 52) ?hr ?_; (case hd => rfl); (case hg => rfl); (case hr => first | (go_simp; done) | (go_simp; rfl)); intro gb490 hg w112 hbox hb; have n0_ := Aside0.mk (Kd.R_below (by (with_reducible repeat (first | apply Kd.R_alloc | apply Kd.R_drewN | apply Kd.R_drew)); exact HO_8.out) hb); have n1_ := Aside0.mk (Kd.R_below (by (with_reducible repeat (first | apply Kd.R_alloc | apply Kd.R_drewN | apply Kd.R_drew)); exact HO_461002.out) hb); have n2_ := Aside0.mk (Kd.R_below (by (with_reducible repeat (first | apply Kd.R_alloc | apply Kd.R_drewN | apply Kd.R_drew)); exact HO_476002.out) hb); have n3_ := Aside0.mk (Kd.R_below (by (with_reducible repeat (first | apply Kd.R_alloc | apply Kd.R_drewN | apply Kd.R_drew)); exact HO488.out) hb); have n4_ := Aside0.mk (blk_below (g := gb460) (o := .cells #[.int .i64 t455, .int .i64 t456, .slice Ao16 t457.length co16] 52 (0, 0)) (by (with_reducible repeat (first | refine blk_drewN ?_ _ | refine blk_drew ?_ | refine blk_alloc ?_ _)); exact BK460.out) hb); have n5_ := Aside0.mk (blk_below (g := gb475) (o := .cells #[.int .i64 t469, .int .i64 t470, .slice Ao25 t471.length co25] 52 (0, 0)) (by (with_reducible repeat (first | refine blk_drewN ?_ _ | refine blk_drew ?_ | refine blk_alloc ?_ _)); exact BK475.out) hb); have n6_ := Aside0.mk (below_step (by repeat (first | (with_reducible first | exact HB.out | apply below_alloc | apply pw_below_drewN | apply below_drew1 | refine below_set ?_ GE460.out | refine below_set ?_ GE475.out) | exact HB.out)) hb); have n7_ := Aside0.mk (hbox); have n8_ := Aside0.mk ((by rw [hg]; exact (below_size (by repeat (first | (with_reducible first | exact HB.out | apply below_alloc | apply pw_below_drewN | apply below_drew1 | refine below_set ?_ GE460.out | refine below_set ?_ GE475.out) | exact HB.out))) : w.heap.size ≤ gb490)); have n9_ := Aside0.mk ((by rw [hg]; exact (below_size (by repeat (first | (with_reducible first | exact HB.out | apply below_alloc | apply pw_below_drewN | apply below_drew1 | refine below_set ?_ GE460.out | refine below_set ?_ GE475.out) | exact HB.out))) : w.heap.size ≤ gb490)); have n10_ := Aside0.mk ((by rw [hg]; exact Nat.ne_of_lt (blk_lt (g := gb460) (o := .cells #[.int .i64 t455, .int .i64 t456, .slice Ao16 t457.length co16] 52 (0, 0)) (by (with_reducible repeat (first | refine blk_drewN ?_ _ | refine blk_drew ?_ | refine blk_alloc ?_ _)); exact BK460.out)) : gb460 ≠ gb490)); have n11_ := Aside0.mk ((by rw [hg]; exact Nat.ne_of_gt (blk_lt (g := gb460) (o := .cells #[.int .i64 t455, .int .i64 t456, .slice Ao16 t457.length co16] 52 (0, 0)) (by (with_reducible repeat (first | refine blk_drewN ?_ _ | refine blk_drew ?_ | refine blk_alloc ?_ _)); exact BK460.out)) : gb490 ≠ gb460)); have n12_ := Aside0.mk ((by rw [hg]; exact Nat.ne_of_lt (blk_lt (g := gb475) (o := .cells #[.int .i64 t469, .int .i64 t470, .slice Ao25 t471.length co25] 52 (0, 0)) (by (with_reducible repeat (first | refine blk_drewN ?_ _ | refine blk_drew ?_ | refine blk_alloc ?_ _)); exact BK475.out)) : gb475 ≠ gb490)); have n13_ := Aside0.mk ((by rw [hg]; exact Nat.ne_of_gt (blk_lt (g := gb475) (o := .cells #[.int .i64 t469, .int .i64 t470, .slice Ao25 t471.length co25] 52 (0, 0)) (by (with_reducible repeat (first | refine blk_drewN ?_ _ | refine blk_drew ?_ | refine blk_alloc ?_ _)); exact BK475.out)) : gb490 ≠ gb475)); clear HO_8; clear HO_461002; clear HO_476002; clear HO488; clear BK460; clear BK475; clear HB; have HO_8 := n0_; have HO_461002 := n1_; have HO_476002 := n2_; have HO488 := n3_; have BK460 := n4_; have BK475 := n5_; have HB := n6_; have BK490 := n7_; have GW490 := n8_; have GE490 := n9_; have NB460_490 := n10_; have NB490_460 := n11_; have NB475_490 := n12_; have NB490_475 := n13_; clear n0_ n1_ n2_ n3_ n4_ n5_ n6_ n7_ n8_ n9_ n10_ n11_ n12_ n13_; clear hb hbox hg; have hnb113 := NB490_460.out; have hnc113 := NB460_490.out; have hnb114 := NB490_475.out; have hnc114 := NB475_490.out; have hcz115_0 : w112.cell? ⟨gb490, 0, none⟩ = some (.int .i64 0) := (blk_cell BK490.out 0).trans rfl; have hcz115_1 : w112.cell? ⟨gb490, 1, none⟩ = some (.int .i64 0) := (blk_cell BK490.out 1).trans rfl; have hcz115_2 : w112.cell? ⟨gb490, 2, none⟩ = some (.slice none 0 0) := (blk_cell BK490.out 2).trans rfl; have hfz115_0 := blk_frozen BK490.out 0; have hfz115_1 := blk_frozen BK490.out 1; have hfz115_2 := blk_frozen BK490.out 2; obtain ⟨Ao116, co116, eo116⟩ := Kd.R_slice HO488.out; subst eo116; have p491 : 0 ≤ (6 : Int) := (by omega); have q491 : 6 < (y483.length : Int) := (by have h_ : (6 : Int) < ((t461.length : Int) : Int) := of_decide_eq_true (by first | (with_reducible assumption) | assumption); first | (have e_ := (Kd.R_reads' HO_8.out).1; omega) | simpa only [Ny483.out, List.length_set] using h_); have ql491 : ((6 : Int) < ((t461.length : Int) : Int)) = True := eq_true (of_decide_eq_true (by first | (with_reducible assumption) | assumption)); (try have qn491 : (6 < t461.length) = True := eq_true (by have h_ : (6 : Int) < ((t461.length : Int) : Int) := of_decide_eq_true (by first | (with_reducible assumption) | assumption); omega)); obtain ⟨ad491, e491, hx491_0⟩ := Kd.at_int (Kd.R_reads' HO_8.out).2.2 6 p491 q491; obtain rfl : (⟨go93, 0, none⟩ : Addr) = ad491 := (by injection e491); (first | simp only [add_plain] at hx491_0 | simp only [add_at] at hx491_0 | simp only [Addr.add, Nat.zero_add] at hx491_0 | skip); have qi491 : (6 < y483.length) = True := eq_true (by omega); (try rw [show ((6 : Int)).toNat = 6 from rfl] at hx491_0); have hn491_0 : (⟨go93, 0, none⟩ : Addr).block ≠ gb490 := Kd.own_blk (Kd.R_ne HO_8.out BK490.out (by decide)); have hn491_1 : (⟨go93, 0, none⟩ : Addr).block ≠ gb490 := Kd.own_blk (Kd.R_ne HO_8.out BK490.out (by decide)); have hn491_2 : (⟨go93, 0, none⟩ : Addr).block ≠ gb490 := Kd.own_blk (Kd.R_ne HO_8.out BK490.out (by decide)); replace hx491_0 := (cell_far (p := ⟨gb490, 0, none⟩) (by first | (rw [add_block]; exact hn491_0) | (show (Addr.add _ _).block ≠ _; rw [add_block]; exact hn491_0) | exact hn491_0) (.int .i64 t484)).trans hx491_0; replace hx491_0 := (cell_far (p := ⟨gb490, 1, none⟩) (by first | (rw [add_block]; exact hn491_1) | (show (Addr.add _ _).block ≠ _; rw [add_block]; exact hn491_1) | exact hn491_1) (.int .i64 t485)).trans hx491_0; replace hx491_0 := (cell_far (p := ⟨gb490, 2, none⟩) (by first | (rw [add_block]; exact hn491_2) | (show (Addr.add _ _).block ≠ _; rw [add_block]; exact hn491_2) | exact hn491_2) (.slice Ao116 t486.length co116)).trans hx491_0; clear hn491_0; clear hn491_1; clear hn491_2; replace p491 := eq_true p491; replace q491 := eq_true q491))
                              go_ret
                              exact ⟨by first | rfl | (simp [errW_none, errW_some] <;> rfl) | (simp [*, errW_none, errW_some] <;> rfl), by repeat (first | (with_reducible first | exact HB.out | apply below_alloc | apply pw_below_drewN | apply below_drew1 | refine below_set ?_ GE460.out | refine below_set ?_ GE475.out | refine below_set ?_ GE490.out) | exact HB.out)⟩
                          · rw [if_neg c96] at H
                            exact absurd H (by simp)
                        · rw [if_neg c95] at H
                          have c95b0 : (t489 == 0) = false := beq_eq_false_iff_ne.mpr c95
                          have c95b1 : (t489 != 0) = true := bne_iff_ne.mpr c95
                          obtain rfl := Option.some.inj H
                          try go_wp2
                          have n0_ := Aside0.mk (Kd.R_drew HO_8.out)
                          have n1_ := Aside0.mk (Kd.R_drew HO_461002.out)
                          have n2_ := Aside0.mk (Kd.R_drew HO_476002.out)
                          have n3_ := Aside0.mk (blk_drew BK460.out)
                          have n4_ := Aside0.mk (blk_drew BK475.out)
                          have n5_ := Aside0.mk (below_drew1 HB.out)
                          clear HO_8
                          clear HO_461002
                          clear HO_476002
                          clear BK460
                          clear BK475
                          clear HB
                          have HO_8 := n0_
                          have HO_461002 := n1_
                          have HO_476002 := n2_
                          have BK460 := n3_
                          have BK475 := n4_
                          have HB := n5_
                          clear n0_ n1_ n2_ n3_ n4_ n5_
                          have p481 : 0 ≤ (t480 : Int) := of_decide_eq_true (by first | (with_reducible assumption) | assumption)
                          have q481 : t480 < (t461.length : Int) := of_decide_eq_true (by first | (with_reducible assumption) | assumption)
                          obtain ⟨ad481, e481, hx481_0⟩ := Kd.at_int (Kd.R_reads' HO_8.out).2.2 t480 p481 q481
                          cases e481
                          replace p481 := eq_true p481
                          replace q481 := eq_true q481
                          refine start_ (n := 14) (S := fun w' => w'.cell? (ad481.add (t480).toNat) = some (.int .u8 (rd t461 t480))) (ds := [13]) #[false, false, false, false, false, false, false, false, false, false, false, false, false, false] (by kernel_rfl) rfl rfl (hx481_0) (fun hHeld => ?_); refine with_tabW laws_FnUdp.tab14 laws_FnUdp.bits14 (fun HT_ HW_ => ?_)
                          generalize wc.drew = w117 at HO_8 HO_461002 HO_476002 BK460 BK475 HB hx481_0 hHeld ⊢
                          refine pure_ (i := 0) (N := some 116) (v := ?_) (a' := ?_) #[true, false, false, false, false, false, false, false, false, false, false, false, false, false] rfl rfl (any_of HT_.out (by kernel_rfl)) (fun _ _ _ h => h) (Or.inl ⟨by rfl, ?_⟩) ?_ ?_
                          rotate_left
                          · intro w'
                            go_simp
                            with_reducible rfl
                          rotate_left
                          · simp only [Act.put, List.setIfInBounds_toArray, List.set_cons_zero, List.set_cons_succ, i64_w, i32_w]
                            rfl
                          refine pure_ (i := 1) (N := some 117) (v := ?_) (a' := ?_) #[true, true, false, false, false, false, false, false, false, false, false, false, false, false] rfl rfl (any_of HT_.out (by kernel_rfl)) (fun _ _ _ h => h) (Or.inl ⟨by rfl, ?_⟩) ?_ ?_
                          rotate_left
                          · intro w'
                            go_simp
                            with_reducible rfl
                          rotate_left
                          · simp only [Act.put, List.setIfInBounds_toArray, List.set_cons_zero, List.set_cons_succ, i64_w, i32_w]
                            rfl
                          refine pure_ (i := 2) (N := some 118) (v := ?_) (a' := ?_) #[true, true, true, false, false, false, false, false, false, false, false, false, false, false] rfl rfl (any_of HT_.out (by kernel_rfl)) (fun _ _ _ h => h) (Or.inl ⟨by rfl, ?_⟩) ?_ ?_
                          rotate_left
                          · intro w'
                            go_simp
                            with_reducible rfl
                          rotate_left
                          · simp only [Act.put, List.setIfInBounds_toArray, List.set_cons_zero, List.set_cons_succ, i64_w, i32_w]
                            rfl
                          refine pure_ (i := 3) (N := some 119) (v := ?_) (a' := ?_) #[true, true, true, true, false, false, false, false, false, false, false, false, false, false] rfl rfl (any_of HT_.out (by kernel_rfl)) (fun _ _ _ h => h) (Or.inl ⟨by rfl, ?_⟩) ?_ ?_
                          rotate_left
                          · intro w'
                            go_simp
                            with_reducible rfl
                          rotate_left
                          · simp only [Act.put, List.setIfInBounds_toArray, List.set_cons_zero, List.set_cons_succ, i64_w, i32_w]
                            rfl
                          refine pure_ (i := 7) (N := some 123) (v := ?_) (a' := ?_) #[true, true, true, true, false, false, false, true, false, false, false, false, false, false] rfl rfl (any_of HT_.out (by kernel_rfl)) (fun _ _ _ h => h) (Or.inl ⟨by rfl, ?_⟩) ?_ ?_
                          rotate_left
                          · intro w'
                            go_simp
                            with_reducible rfl
                          rotate_left
                          · simp only [Act.put, List.setIfInBounds_toArray, List.set_cons_zero, List.set_cons_succ, i64_w, i32_w]
                            rfl
                          refine one_ (i := 4) (N := some 120) #[true, true, true, true, true, false, false, true, false, false, false, false, false, false] rfl rfl (one_of HT_.out (by kernel_rfl)) (by decide) (fun K hK => ?_)
                          refine goes_ Try.func39 (by kernel_rfl) rfl #[.slice A1 l1.length c1, .int .i64 0, .int .i64 (t461.length : Int)] (by rfl) rfl rfl (by (try simp only [List.map_toArray, List.map_cons, List.map_nil]); first | done | rfl | (simp only [List.length_drop, List.length_take]; rfl)) ?_
                          with_reducible refine (laws_at.calls _ _ l1 0 (t461.length : Int) t480 _ ?side1 ?side2 A89.out).mono ?_
                          (case side1 => repeat (first | exact (Kd.C_below HR1.out HB.out) | (with_reducible refine Kd.C_alloc ?_ _) | (with_reducible refine Kd.C_drewN ?_ _) | (with_reducible refine Kd.C_drew ?_)))
                          (case side2 => exact HC1.out)
                          rintro e w' ⟨rfl, ⟨nd, rfl⟩⟩
                          refine ⟨_, rfl, ?_⟩
                          refine hK.out _ _ (hHeld) (fun hHeld => ?_)
                          clear hK K
                          refine norm_ (a' := ?_) ?_ ?_
                          rotate_left
                          · show Act.put _ (some 120) _ = _
                            simp only [Act.put, List.setIfInBounds_toArray, List.set_cons_zero, List.set_cons_succ, i64_w, i32_w]
                            rfl
                          refine pure_ (i := 5) (N := some 121) (v := ?_) (a' := ?_) #[true, true, true, true, true, true, false, true, false, false, false, false, false, false] rfl rfl (any_of HT_.out (by kernel_rfl)) (fun _ _ _ h => h) (Or.inl ⟨by rfl, ?_⟩) ?_ ?_
                          rotate_left
                          · intro w'
                            go_simp
                            with_reducible rfl
                          rotate_left
                          · simp only [Act.put, List.setIfInBounds_toArray, List.set_cons_zero, List.set_cons_succ, i64_w, i32_w]
                            rfl
                          refine take_ (i := 6) (N := some 122) (v := ?_) (a' := ?_) #[true, true, true, true, true, true, true, true, false, false, false, false, false, false] rfl rfl (take_ofW HT_.out HW_.out (by kernel_rfl)) (fun _ _ _ h => h) (Or.inl ⟨by rfl, ?_⟩) hHeld ?_ ?_
                          rotate_left
                          · intro w' s0
                            go_simp
                            with_reducible rfl
                          rotate_left
                          · simp only [Act.put, List.setIfInBounds_toArray, List.set_cons_zero, List.set_cons_succ, i64_w, i32_w]
                            rfl
                          refine one_ (i := 8) (N := some 124) #[true, true, true, true, true, true, true, true, true, false, false, false, false, false] rfl rfl (one_of HT_.out (by kernel_rfl)) (by decide) (fun K hK => ?_)
                          refine goes_ Try.func39 (by kernel_rfl) rfl #[.slice A1 l1.length c1, .int .i64 1, .int .i64 255] (by rfl) rfl rfl (by (try simp only [List.map_toArray, List.map_cons, List.map_nil]); first | done | rfl | (simp only [List.length_drop, List.length_take]; rfl)) ?_
                          with_reducible refine (laws_at.calls _ _ l1 1 255 t482 _ ?side1 ?side2 A92.out).mono ?_
                          (case side1 => repeat (first | exact (Kd.C_below HR1.out (by repeat (first | (with_reducible first | exact HB.out | apply below_alloc | apply pw_below_drewN | apply below_drew1 | refine below_set ?_ GE460.out | refine below_set ?_ GE475.out) | exact HB.out))) | (with_reducible refine Kd.C_alloc ?_ _) | (with_reducible refine Kd.C_drewN ?_ _) | (with_reducible refine Kd.C_drew ?_)))
                          (case side2 => exact HC1.out)
                          rintro e w' ⟨rfl, ⟨nd, rfl⟩⟩
                          refine ⟨_, rfl, ?_⟩
                          have p93 : 0 ≤ (t480 : Int) := of_decide_eq_true (by first | (with_reducible assumption) | assumption)
                          have q93 : (t480 : Int) < ((t461.length : Int) : Int) := of_decide_eq_true (by first | (with_reducible assumption) | assumption)
                          obtain ⟨go93, co93, eo93, gb93, gl93, cl93, HG93⟩ := Kd.R_form HO_8.out (by omega)
                          (first | cases eo93 | (injection eo93 with ea_ en_ ec_; (first | subst ea_ | (injection ea_ with ea_; subst ea_)); subst ec_; clear en_))
                          have GB93 := Aside0.mk gb93
                          have GG93 := Aside0.mk HG93
                          clear gb93 gl93 HG93
                          (first | simp only [add_plain] at hx481_0 | skip)
                          obtain ⟨hx93_0, hf93_0⟩ := Kd.R_celln 0 HO_8.out (t480 : Int) p93 q93
                          replace p93 := eq_true p93
                          replace q93 := eq_true q93
                          have HP118 := Kd.R_putn HO_8.out (t480 : Int) (Go.bits .xor .u8 (rd t461 t480) ((wrap64 (1 + t482)) % 256))
                          rw [← Ny483.out] at HP118
                          have HQ118 := Aside0.mk HP118
                          clear HP118
                          refine hK.out _ _ (hHeld) (fun hHeld => ?_)
                          clear hK K
                          refine norm_ (a' := ?_) ?_ ?_
                          rotate_left
                          · show Act.put _ (some 124) _ = _
                            simp only [Act.put, List.setIfInBounds_toArray, List.set_cons_zero, List.set_cons_succ, i64_w, i32_w]
                            rfl
                          refine pure_ (i := 9) (N := some 125) (v := ?_) (a' := ?_) #[true, true, true, true, true, true, true, true, true, true, false, false, false, false] rfl rfl (any_of HT_.out (by kernel_rfl)) (fun _ _ _ h => h) (Or.inl ⟨by rfl, ?_⟩) ?_ ?_
                          rotate_left
                          · intro w'
                            go_simp
                            with_reducible rfl
                          rotate_left
                          · simp only [Act.put, List.setIfInBounds_toArray, List.set_cons_zero, List.set_cons_succ, i64_w, i32_w]
                            rfl
                          refine pure_ (i := 10) (N := some 126) (v := ?_) (a' := ?_) #[true, true, true, true, true, true, true, true, true, true, true, false, false, false] rfl rfl (any_of HT_.out (by kernel_rfl)) (fun _ _ _ h => h) (Or.inl ⟨by rfl, ?_⟩) ?_ ?_
                          rotate_left
                          · intro w'
                            go_simp
                            with_reducible rfl
                          rotate_left
                          · simp only [Act.put, List.setIfInBounds_toArray, List.set_cons_zero, List.set_cons_succ, i64_w, i32_w]
                            rfl
                          refine pure_ (i := 11) (N := some 127) (v := ?_) (a' := ?_) #[true, true, true, true, true, true, true, true, true, true, true, true, false, false] rfl rfl (any_of HT_.out (by kernel_rfl)) (fun _ _ _ h => h) (Or.inl ⟨by rfl, ?_⟩) ?_ ?_
                          rotate_left
                          · intro w'
                            go_simp
                            with_reducible rfl
                          rotate_left
                          · simp only [Act.put, List.setIfInBounds_toArray, List.set_cons_zero, List.set_cons_succ, i64_w, i32_w]
                            rfl
                          refine pure_ (i := 12) (N := some 128) (v := ?_) (a' := ?_) #[true, true, true, true, true, true, true, true, true, true, true, true, true, false] rfl rfl (any_of HT_.out (by kernel_rfl)) (fun _ _ _ h => h) (Or.inl ⟨by rfl, ?_⟩) ?_ ?_
                          rotate_left
                          · intro w'
                            go_simp
                            with_reducible rfl
                          rotate_left
                          · simp only [Act.put, List.setIfInBounds_toArray, List.set_cons_zero, List.set_cons_succ, i64_w, i32_w]
                            rfl
                          refine last_ (i := 13) (N := none) #[true, true, true, true, true, true, true, true, true, true, true, true, true, true] rfl rfl (one_of HT_.out (by kernel_rfl)) (by decide) (fun K hK => ?_)
                          refine skip_ (w1 := ?_) (by rfl) rfl ?_ ?_
                          rotate_left
                          · go_simp
                            rfl
                          refine hK.out _ _ ?_
                          clear hK K
                          refine done_ (done_of HT_.out (by kernel_rfl)) ?_
                          (try simp only [World.drewN_drewN, IntKind.wrap_u8])
                          (try (rw [drewN_self w117]; generalize hq_ : World.drewN w117 _ = w117; have m0_ : Aside0 (Kd.R (Kd.int .u8) 5 (w117.setCell ⟨go93, (t480 : Int).toNat, none⟩ (.int .u8 (Go.bits .xor .u8 (rd t461 t480) ((wrap64 (1 + t482)) % 256)))) w.heap.size (fun k_ => some k_ ≠ (.slice Ao16 t457.length co16 : Value).ownBlock ∧ some k_ ≠ (.slice Ao25 t471.length co25 : Value).ownBlock) (.slice (some ⟨go93, 0, none⟩) t461.length co20) y483) := ⟨by rw [← hq_]; exact Kd.R_drewN HQ118.out _⟩; have m1_ := Aside0.mk (Kd.R_at hq_ HO_461002.out); have m2_ := Aside0.mk (Kd.R_at hq_ HO_476002.out); have m3_ := Aside0.mk (Kd.R_at hq_ HO_8.out); have m4_ := Aside0.mk (blk_at hq_ BK460.out); have m5_ := Aside0.mk (blk_at hq_ BK475.out); have m6_ := Aside0.mk (below_at hq_ HB.out); clear hq_ HQ118 HO_461002 HO_476002 HO_8 BK460 BK475 HB; have HQ118 := m0_; have HO_461002 := m1_; have HO_476002 := m2_; have HO_8 := m3_; have BK460 := m4_; have BK475 := m5_; have HB := m6_; clear m0_ m1_ m2_ m3_ m4_ m5_ m6_))
                          have n0_ : Aside0 (Kd.R (Kd.int .u8) 5 (w117.setCell ⟨go93, (t480 : Int).toNat, none⟩ (.int .u8 (Go.bits .xor .u8 (rd t461 t480) ((wrap64 (1 + t482)) % 256)))) w.heap.size (fun k_ => some k_ ≠ (.slice Ao16 t457.length co16 : Value).ownBlock ∧ some k_ ≠ (.slice Ao25 t471.length co25 : Value).ownBlock) (.slice (some ⟨go93, 0, none⟩) t461.length co20) y483) := ⟨by (with_reducible repeat (first | apply Kd.R_alloc | apply Kd.R_drewN | apply Kd.R_drew)); exact HQ118.out⟩
                          have n1_ : Aside0 (Kd.R (Kd.int .u8) 5 (w117.setCell ⟨go93, (t480 : Int).toNat, none⟩ (.int .u8 (Go.bits .xor .u8 (rd t461 t480) ((wrap64 (1 + t482)) % 256)))) w.heap.size (fun k_ => some k_ ≠ (.slice (some ⟨go93, 0, none⟩) t461.length co20 : Value).ownBlock ∧ some k_ ≠ (.slice Ao25 t471.length co25 : Value).ownBlock) (.slice Ao16 t457.length co16) t457) := ⟨by (with_reducible repeat (first | apply Kd.R_alloc | apply Kd.R_drewN | apply Kd.R_drew)); exact Kd.R_mono (Kd.R_far (p := ⟨go93, (t480 : Int).toNat, none⟩) (Kd.R_mono HO_461002.out (fun k_ hk => (⟨hk, fun e_ => hk.1 (by rw [e_]; rfl)⟩ : _ ∧ k_ ≠ go93))) (fun _ hk => hk.2) (.int .u8 (Go.bits .xor .u8 (rd t461 t480) ((wrap64 (1 + t482)) % 256)))) (fun _ hk => ⟨hk.1.1, hk.1.2⟩)⟩
                          have n2_ : Aside0 (Kd.R (Kd.int .u8) 5 (w117.setCell ⟨go93, (t480 : Int).toNat, none⟩ (.int .u8 (Go.bits .xor .u8 (rd t461 t480) ((wrap64 (1 + t482)) % 256)))) w.heap.size (fun k_ => some k_ ≠ (.slice (some ⟨go93, 0, none⟩) t461.length co20 : Value).ownBlock ∧ some k_ ≠ (.slice Ao16 t457.length co16 : Value).ownBlock) (.slice Ao25 t471.length co25) t471) := ⟨by (with_reducible repeat (first | apply Kd.R_alloc | apply Kd.R_drewN | apply Kd.R_drew)); exact Kd.R_mono (Kd.R_far (p := ⟨go93, (t480 : Int).toNat, none⟩) (Kd.R_mono HO_476002.out (fun k_ hk => (⟨hk, fun e_ => hk.1 (by rw [e_]; rfl)⟩ : _ ∧ k_ ≠ go93))) (fun _ hk => hk.2) (.int .u8 (Go.bits .xor .u8 (rd t461 t480) ((wrap64 (1 + t482)) % 256)))) (fun _ hk => ⟨hk.1.1, hk.1.2⟩)⟩
                          have n3_ : Aside0 ((w117.setCell ⟨go93, (t480 : Int).toNat, none⟩ (.int .u8 (Go.bits .xor .u8 (rd t461 t480) ((wrap64 (1 + t482)) % 256)))).heap[gb460]? = some (.cells #[.int .i64 t455, .int .i64 t456, .slice Ao16 t457.length co16] 52 (0, 0))) := ⟨by (with_reducible repeat (first | refine blk_drewN ?_ _ | refine blk_drew ?_ | refine blk_alloc ?_ _)); refine blk_far ?_ (by have h_ := Kd.R_ne HO_8.out BK460.out (by decide); intro e_; exact h_ (by rw [e_]; rfl)) _; (with_reducible repeat (first | refine blk_drewN ?_ _ | refine blk_drew ?_ | refine blk_alloc ?_ _)); exact BK460.out⟩
                          have n4_ : Aside0 ((w117.setCell ⟨go93, (t480 : Int).toNat, none⟩ (.int .u8 (Go.bits .xor .u8 (rd t461 t480) ((wrap64 (1 + t482)) % 256)))).heap[gb475]? = some (.cells #[.int .i64 t469, .int .i64 t470, .slice Ao25 t471.length co25] 52 (0, 0))) := ⟨by (with_reducible repeat (first | refine blk_drewN ?_ _ | refine blk_drew ?_ | refine blk_alloc ?_ _)); refine blk_far ?_ (by have h_ := Kd.R_ne HO_8.out BK475.out (by decide); intro e_; exact h_ (by rw [e_]; rfl)) _; (with_reducible repeat (first | refine blk_drewN ?_ _ | refine blk_drew ?_ | refine blk_alloc ?_ _)); exact BK475.out⟩
                          have n5_ : Aside0 (Below w.heap.size w (w117.setCell ⟨go93, (t480 : Int).toNat, none⟩ (.int .u8 (Go.bits .xor .u8 (rd t461 t480) ((wrap64 (1 + t482)) % 256))))) := ⟨by repeat (first | (with_reducible first | exact HB.out | apply below_alloc | apply pw_below_drewN | apply below_drew1 | refine below_set ?_ GB93.out | refine below_set ?_ GE460.out | refine below_set ?_ GE475.out) | exact HB.out)⟩
                          (try clear HO_8)
                          (try clear HO_461002)
                          (try clear HO_476002)
                          (try clear BK460)
                          (try clear BK475)
                          (try clear HB)
                          generalize (w117.setCell ⟨go93, (t480 : Int).toNat, none⟩ (.int .u8 (Go.bits .xor .u8 (rd t461 t480) ((wrap64 (1 + t482)) % 256)))) = w119 at n0_ n1_ n2_ n3_ n4_ n5_ ⊢
                          have HO_8 := n0_
                          have HO_461002 := n1_
                          have HO_476002 := n2_
                          have BK460 := n3_
                          have BK475 := n4_
                          have HB := n5_
                          clear n0_ n1_ n2_ n3_ n4_ n5_
                          try go_wp2_with (first | ((with_reducible refine gate_callee (f := 36) rfl ?_); refine goesL_ (some 133) rfl rfl Try.func36 (by kernel_rfl) rfl #[.string t453, .string t454, .slice (some ⟨go93, 0, none⟩) y483.length co20] rfl (by (try simp only [List.map_toArray, List.map_cons, List.map_nil]); first | done | (rw [show y483.length = t461.length from (Kd.R_reads' HO_8.out).1.symm] <;> rfl) | rfl | (simp only [List.length_drop, List.length_take]; rfl)) ?_; (with_reducible refine (impl_ReadUdp.calls kj82 t453 t454 _ _ y483 t484 t485 t486 t489 _ ?side1 ?side2 A94.out).mono ?_); (case side1 => repeat (first | exact (Kd.R_reads' HO_8.out).2.2 | (with_reducible refine Kd.C_alloc ?_ _) | (with_reducible refine Kd.C_drewN ?_ _) | (with_reducible refine Kd.C_drew ?_))); (case side2 => rw [show y483.length = t461.length from (Kd.R_reads' HO_8.out).1.symm]; exact (Kd.R_reads' HO_8.out).2.1); rintro e w120 ⟨v487, rfl, ho0, hb⟩; refine ⟨_, rfl, ?_⟩; have n0_ := Aside0.mk (Kd.R_elder' (by (with_reducible repeat (first | apply Kd.R_alloc | apply Kd.R_drewN | apply Kd.R_drew)); exact HO_8.out) (Kd.R_base ho0) hb); have n1_ := Aside0.mk (Kd.R_elder' (by (with_reducible repeat (first | apply Kd.R_alloc | apply Kd.R_drewN | apply Kd.R_drew)); exact HO_461002.out) (Kd.R_base ho0) hb); have n2_ := Aside0.mk (Kd.R_elder' (by (with_reducible repeat (first | apply Kd.R_alloc | apply Kd.R_drewN | apply Kd.R_drew)); exact HO_476002.out) (Kd.R_base ho0) hb); have n3_ := Aside0.mk (Kd.R_lower (Kd.R_new' (Kd.R_new' (Kd.R_new' ho0 (Kd.R_lt (by (with_reducible repeat (first | apply Kd.R_alloc | apply Kd.R_drewN | apply Kd.R_drew)); exact HO_8.out))) (Kd.R_lt (by (with_reducible repeat (first | apply Kd.R_alloc | apply Kd.R_drewN | apply Kd.R_drew)); exact HO_461002.out))) (Kd.R_lt (by (with_reducible repeat (first | apply Kd.R_alloc | apply Kd.R_drewN | apply Kd.R_drew)); exact HO_476002.out))) (below_size (by repeat (first | (with_reducible first | exact HB.out | apply below_alloc | apply pw_below_drewN | apply below_drew1 | refine below_set ?_ GE460.out | refine below_set ?_ GE475.out) | exact HB.out)))); have n4_ := Aside0.mk (blk_below (g := gb460) (o := .cells #[.int .i64 t455, .int .i64 t456, .slice Ao16 t457.length co16] 52 (0, 0)) (by (with_reducible repeat (first | refine blk_drewN ?_ _ | refine blk_drew ?_ | refine blk_alloc ?_ _)); exact BK460.out) hb); have n5_ := Aside0.mk (blk_below (g := gb475) (o := .cells #[.int .i64 t469, .int .i64 t470, .slice Ao25 t471.length co25] 52 (0, 0)) (by (with_reducible repeat (first | refine blk_drewN ?_ _ | refine blk_drew ?_ | refine blk_alloc ?_ _)); exact BK475.out) hb); have n6_ := Aside0.mk (below_step (by repeat (first | (with_reducible first | exact HB.out | apply below_alloc | apply pw_below_drewN | apply below_drew1 | refine below_set ?_ GE460.out | refine below_set ?_ GE475.out) | exact HB.out)) hb); clear HO_8; clear HO_461002; clear HO_476002; clear BK460; clear BK475; clear HB; have HO_8 := n0_; have HO_461002 := n1_; have HO_476002 := n2_; have HO488 := n3_; have BK460 := n4_; have BK475 := n5_; have HB := n6_; clear n0_ n1_ n2_ n3_ n4_ n5_ n6_; (try clear hb); (try clear hb2); (try clear hk); (try clear hi); (try clear ho0)) | ((with_reducible refine gate_dst (N := 18) rfl ?_); refine box_event ?hg (N := 18) ?hd (cs := #[.int .i64 0, .int .i64 0, .slice none 0 0]) (t := 52) ?hr ?_; (case hd => rfl); (case hg => rfl); (case hr => first | (go_simp; done) | (go_simp; rfl)); intro gb490 hg w121 hbox hb; have n0_ := Aside0.mk (Kd.R_below (by (with_reducible repeat (first | apply Kd.R_alloc | apply Kd.R_drewN | apply Kd.R_drew)); exact HO_8.out) hb); have n1_ := Aside0.mk (Kd.R_below (by (with_reducible repeat (first | apply Kd.R_alloc | apply Kd.R_drewN | apply Kd.R_drew)); exact HO_461002.out) hb); have n2_ := Aside0.mk (Kd.R_below (by (with_reducible repeat (first | apply Kd.R_alloc | apply Kd.R_drewN | apply Kd.R_drew)); exact HO_476002.out) hb); have n3_ := Aside0.mk (Kd.R_below (by (with_reducible repeat (first | apply Kd.R_alloc | apply Kd.R_drewN | apply Kd.R_drew)); exact HO488.out) hb); have n4_ := Aside0.mk (blk_below (g := gb460) (o := .cells #[.int .i64 t455, .int .i64 t456, .slice Ao16 t457.length co16] 52 (0, 0)) (by (with_reducible repeat (first | refine blk_drewN ?_ _ | refine blk_drew ?_ | refine blk_alloc ?_ _)); exact BK460.out) hb); have n5_ := Aside0.mk (blk_below (g := gb475) (o := .cells #[.int .i64 t469, .int .i64 t470, .slice Ao25 t471.length co25] 52 (0, 0)) (by (with_reducible repeat (first | refine blk_drewN ?_ _ | refine blk_drew ?_ | refine blk_alloc ?_ _)); exact BK475.out) hb); have n6_ := Aside0.mk (below_step (by repeat (first | (with_reducible first | exact HB.out | apply below_alloc | apply pw_below_drewN | apply below_drew1 | refine below_set ?_ GE460.out | refine below_set ?_ GE475.out) | exact HB.out)) hb); have n7_ := Aside0.mk (hbox); have n8_ := Aside0.mk ((by rw [hg]; exact (below_size (by repeat (first | (with_reducible first | exact HB.out | apply below_alloc | apply pw_below_drewN | apply below_drew1 | refine below_set ?_ GE460.out | refine below_set ?_ GE475.out) | exact HB.out))) : w.heap.size ≤ gb490)); have n9_ := Aside0.mk ((by rw [hg]; exact (below_size (by repeat (first | (with_reducible first | exact HB.out | apply below_alloc | apply pw_below_drewN | apply below_drew1 | refine below_set ?_ GE460.out | refine below_set ?_ GE475.out) | exact HB.out))) : w.heap.size ≤ gb490)); have n10_ := Aside0.mk ((by rw [hg]; exact Nat.ne_of_lt (blk_lt (g := gb460) (o := .cells #[.int .i64 t455, .int .i64 t456, .slice Ao16 t457.length co16] 52 (0, 0)) (by (with_reducible repeat (first | refine blk_drewN ?_ _ | refine blk_drew ?_ | refine blk_alloc ?_ _)); exact BK460.out)) : gb460 ≠ gb490)); have n11_ := Aside0.mk ((by rw [hg]; exact Nat.ne_of_gt (blk_lt (g := gb460) (o := .cells #[.int .i64 t455, .int .i64 t456, .slice Ao16 t457.length co16] 52 (0, 0)) (by (with_reducible repeat (first | refine blk_drewN ?_ _ | refine blk_drew ?_ | refine blk_alloc ?_ _)); exact BK460.out)) : gb490 ≠ gb460)); have n12_ := Aside0.mk ((by rw [hg]; exact Nat.ne_of_lt (blk_lt (g := gb475) (o := .cells #[.int .i64 t469, .int .i64 t470, .slice Ao25 t471.length co25] 52 (0, 0)) (by (with_reducible repeat (first | refine blk_drewN ?_ _ | refine blk_drew ?_ | refine blk_alloc ?_ _)); exact BK475.out)) : gb475 ≠ gb490)); have n13_ := Aside0.mk ((by rw [hg]; exact Nat.ne_of_gt (blk_lt (g := gb475) (o := .cells #[.int .i64 t469, .int .i64 t470, .slice Ao25 t471.length co25] 52 (0, 0)) (by (with_reducible repeat (first | refine blk_drewN ?_ _ | refine blk_drew ?_ | refine blk_alloc ?_ _)); exact BK475.out)) : gb490 ≠ gb475)); clear HO_8; clear HO_461002; clear HO_476002; clear HO488; clear BK460; clear BK475; clear HB; have HO_8 := n0_; have HO_461002 := n1_; have HO_476002 := n2_; have HO488 := n3_; have BK460 := n4_; have BK475 := n5_; have HB := n6_; have BK490 := n7_; have GW490 := n8_; have GE490 := n9_; have NB460_490 := n10_; have NB490_460 := n11_; have NB475_490 := n12_; have NB490_475 := n13_; clear n0_ n1_ n2_ n3_ n4_ n5_ n6_ n7_ n8_ n9_ n10_ n11_ n12_ n13_; clear hb hbox hg; have hnb122 := NB490_460.out; have hnc122 := NB460_490.out; have hnb123 := NB490_475.out; have hnc123 := NB475_490.out; have hcz124_0 : w121.cell? ⟨gb490, 0, none⟩ = some (.int .i64 0) := (blk_cell BK490.out 0).trans rfl; have hcz124_1 : w121.cell? ⟨gb490, 1, none⟩ = some (.int .i64 0) := (blk_cell BK490.out 1).trans rfl; have hcz124_2 : w121.cell? ⟨gb490, 2, none⟩ = some (.slice none 0 0) := (blk_cell BK490.out 2).trans rfl; have hfz124_0 := blk_frozen BK490.out 0; have hfz124_1 := blk_frozen BK490.out 1; have hfz124_2 := blk_frozen BK490.out 2; obtain ⟨Ao125, co125, eo125⟩ := Kd.R_slice HO488.out; subst eo125))
                          go_ret
                          exact ⟨by first | rfl | (simp [errW_none, errW_some] <;> rfl) | (simp [*, errW_none, errW_some] <;> rfl), by repeat (first | (with_reducible first | exact HB.out | apply below_alloc | apply pw_below_drewN | apply below_drew1 | refine below_set ?_ GE460.out | refine below_set ?_ GE475.out | refine below_set ?_ GE490.out) | exact HB.out)⟩
                      · rw [if_neg c91] at H
                        exact absurd H (by simp)
                    · rw [if_neg c90] at H
                      exact absurd H (by simp)

/-- THE ONE PURE STATEMENT of laws_FnUdp: yours. -/
def laws_FnUdp.Pure : Prop := ∀ (l0 : List Int) (l1 : List Int), l0.length ≤ maxLen → l0.length * 1 ≤ 140737488351232 → (∀ x ∈ l0, (Lit.int .u8 x).wf = true) → l1.length ≤ maxLen → l1.length * 1 ≤ 140737488351232 → (∀ x ∈ l1, (Lit.int .u8 x).wf = true) → ∃ k, laws_FnUdp.f k l0 l1 = some true
theorem laws_FnUdp.walk (P : laws_FnUdp.Pure) (a0 : Option Addr) (len0 cap0 : Nat) (z0 : List Int) (a1 : Option Addr) (len1 cap1 : Nat) (z1 : List Int) (w : World) (w0 : (a0 = none ∧ len0 = 0 ∧ cap0 = 0 ∧ z0 = []) ∨ ∃ x, a0 = some x ∧ len0 ≤ cap0 ∧ cap0 ≤ maxLen ∧ z0.length = cap0 ∧ (∀ i, i < z0.length → w.cell? (x.add i) = some (.int .u8 (z0.getD i 0))) ∧ ∀ n ∈ z0, (Lit.int .u8 n).wf = true) (y0 : len0 * 1 ≤ 140737488351232) (w1 : (a1 = none ∧ len1 = 0 ∧ cap1 = 0 ∧ z1 = []) ∨ ∃ x, a1 = some x ∧ len1 ≤ cap1 ∧ cap1 ≤ maxLen ∧ z1.length = cap1 ∧ (∀ i, i < z1.length → w.cell? (x.add i) = some (.int .u8 (z1.getD i 0))) ∧ ∀ n ∈ z1, (Lit.int .u8 n).wf = true) (y1 : len1 * 1 ≤ 140737488351232) :
    Calls Try.prog 6 #[.slice a0 len0 cap0, .slice a1 len1 cap1] w fun e w' => e = .returned (.bool true) ∧ Below w.heap.size w w' := by
  obtain ⟨l0, rfl, hr0, hm0, hw0, hc0⟩ := ReadsInt.ofRowC w0
  obtain ⟨l1, rfl, hr1, hm1, hw1, hc1⟩ := ReadsInt.ofRowC w1
  obtain ⟨k, h⟩ := P l0 l1 hm0 y0 hw0 hm1 y1 hw1
  refine (laws_FnUdp.calls k _ _ l0 _ _ l1 true w (Kd.C_of_reads (d := (0 : Int)) (h1 := fun _ => rfl) hr0) hc0 (Kd.C_of_reads (d := (0 : Int)) (h1 := fun _ => rfl) hr1) hc1 h).mono ?_
  rintro e w' ⟨rfl, hd⟩
  exact ⟨rfl, hd⟩

end Go.Proofs.Ytjfpkfophfelmaa.QFnUdp
