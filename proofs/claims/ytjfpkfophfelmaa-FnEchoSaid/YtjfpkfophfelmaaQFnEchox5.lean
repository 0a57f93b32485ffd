-- written by a program of this session
import Derived.Test.YtjfpkfophfelmaaQFnEchox0
import Derived.Test.YtjfpkfophfelmaaQFnEchox3
import Derived.Test.YtjfpkfophfelmaaQFnEchox4
namespace Go.Proofs.Ytjfpkfophfelmaa.QFnEcho
open Go.RowKit Go.Proofs.YtjfpkfophfelmaaV.PrintWords Go.Proofs.YtjfpkfophfelmaaV.PrintLast Go.Proofs.YtjfpkfophfelmaaV.PrintMore
attribute [local go_sem] max2_int min2_int max_two min_two max_three min_three max_four min_four   -- for this text's walks alone
set_option linter.unusedVariables false
set_option linter.unusedSimpArgs false

/-! ### spec_l09EchoBytes: function 106 -/
def spec_l09EchoBytes.f (k : Nat) (a0 : ByteArray) (a1 : ByteArray) (a2_0 : Bool) (a2_1 : Int) (a2_2 : Int) (l2_3 : List Int) : Option (List Int) := (spec_l01Bit.f a2_0 8).bind fun t345 => (if (a0.size : Int) = 16 then ((spec_l01Bit.f a2_0 1).bind fun t346 => ((some (([(wrap64 (128 + t346)) % 256, 0, 0, 0] : List Int) : List Int)).bind fun y347 => ((spec_l01Two.f a2_1).bind fun t350 => (if y347.length + t350.length < 140737488355328 then ((some (y347 ++ t350 : List Int)).bind fun y353 => ((spec_l01Two.f a2_2).bind fun t356 => (if y353.length + t356.length < 140737488355328 then ((some (y353 ++ t356 : List Int)).bind fun y359 => (if y359.length + l2_3.length < 140737488355328 then ((some (y359 ++ l2_3 : List Int)).bind fun y362 => ((spec_l09EchoSum.f k a0 a1 y362).bind fun t365 => (if 2 < (y362.length : Int) then (if 3 < (y362.length : Int) then (some ((y362.set (2 : Int).toNat ((wrap64 (Int.tdiv t365 256)) % 256)).set (3 : Int).toNat ((Int.tmod t365 256) % 256))) else (none)) else (none)))) else (none))) else (none)))) else (none))))) else ((some (([(wrap64 (8 - t345)) % 256, 0, 0, 0] : List Int) : List Int)).bind fun y368 => ((spec_l01Two.f a2_1).bind fun t371 => (if y368.length + t371.length < 140737488355328 then ((some (y368 ++ t371 : List Int)).bind fun y374 => ((spec_l01Two.f a2_2).bind fun t377 => (if y374.length + t377.length < 140737488355328 then ((some (y374 ++ t377 : List Int)).bind fun y380 => (if y380.length + l2_3.length < 140737488355328 then ((some (y380 ++ l2_3 : List Int)).bind fun y383 => ((spec_l09EchoSum.f k a0 a1 y383).bind fun t386 => (if 2 < (y383.length : Int) then (if 3 < (y383.length : Int) then (some ((y383.set (2 : Int).toNat ((wrap64 (Int.tdiv t386 256)) % 256)).set (3 : Int).toNat ((Int.tmod t386 256) % 256))) else (none)) else (none)))) else (none))) else (none)))) else (none)))))
theorem spec_l09EchoBytes.mono : ∀ a0 a1 a2 a3 a4 a5 k, LeO (spec_l09EchoBytes.f k a0 a1 a2 a3 a4 a5) (spec_l09EchoBytes.f (k + 1) a0 a1 a2 a3 a4 a5) := by
  intro a0 a1 a2 a3 a4 a5 k
  unfold spec_l09EchoBytes.f
  repeat' first
      | (with_reducible exact spec_l09EchoSum.mono _ _ _ _)
      | (with_reducible exact LeO.refl _)
      | (with_reducible exact LeO.none _)
      | (with_reducible refine LeO.ite ?_ ?_)
      | (with_reducible refine LeO.bind ?_ (fun _ => ?_))
      | exact spec_l09EchoSum.mono _ _ _ _
      | exact LeO.none _
      | refine LeO.ite ?_ ?_
      | refine LeO.bind ?_ (fun _ => ?_)
def spec_l09EchoBytes.T5 : Bool × List (List Nat × List Nat) := (true, [([], []), ([], []), ([1], [1]), ([2], [2]), ([0, 3, 3], [0, 3]), ([], []), ([5], [5]), ([4, 6, 4], [4, 6]), ([7, 7, 0, 1, 2, 3, 4, 5, 6, 7], [0, 7])])
def spec_l09EchoBytes.B5 : List Nat := [0, 0, 2, 6, 15, 0, 32, 127, 255]
theorem spec_l09EchoBytes.tab5 : rtab .any (opsOf Try.f106 5) = spec_l09EchoBytes.T5 := by kernel_rfl
theorem spec_l09EchoBytes.bits5 : waitsOk spec_l09EchoBytes.T5.2 spec_l09EchoBytes.B5 = true := by kernel_rfl
set_option maxHeartbeats 8000000 in
set_option maxRecDepth 100000 in
theorem spec_l09EchoBytes.calls (k : Nat) (a0 : ByteArray) (a1 : ByteArray) (a2_0 : Bool) (a2_1 : Int) (a2_2 : Int) (A2_3 : Option Addr) (c2_3 : Nat) (l2_3 : List Int) (r : List Int) (w : World) (hr2_3 : Kd.C (Kd.int .u8) w A2_3 l2_3.length l2_3) (hc2_3 : l2_3.length ≤ c2_3) (h : spec_l09EchoBytes.f k a0 a1 a2_0 a2_1 a2_2 l2_3 = some r) :
    Calls Try.prog 106 #[.string a0, .string a1, .agg #[.bool a2_0, .int .i64 a2_1, .int .i64 a2_2, .slice A2_3 l2_3.length c2_3]] w fun e w' => ∃ v0_ : Value, e = .returned (v0_) ∧ Kd.R (Kd.int .u8) 5 w' w.heap.size (fun _ => True) v0_ r ∧ Below w.heap.size w w' := by
  have hu61 := Try.underlying61
  have HR2_3 := Aside0.mk hr2_3
  have HC2_3 := Aside0.mk hc2_3
  clear hr2_3 hc2_3
  have HB := Aside0.mk (Below.refl w.heap.size w)
  have H : ((spec_l01Bit.f a2_0 8).bind fun t345 => (if (a0.size : Int) = 16 then ((spec_l01Bit.f a2_0 1).bind fun t346 => ((some (([(wrap64 (128 + t346)) % 256, 0, 0, 0] : List Int) : List Int)).bind fun y347 => ((spec_l01Two.f a2_1).bind fun t350 => (if y347.length + t350.length < 140737488355328 then ((some (y347 ++ t350 : List Int)).bind fun y353 => ((spec_l01Two.f a2_2).bind fun t356 => (if y353.length + t356.length < 140737488355328 then ((some (y353 ++ t356 : List Int)).bind fun y359 => (if y359.length + l2_3.length < 140737488355328 then ((some (y359 ++ l2_3 : List Int)).bind fun y362 => ((spec_l09EchoSum.f k a0 a1 y362).bind fun t365 => (if 2 < (y362.length : Int) then (if 3 < (y362.length : Int) then (some ((y362.set (2 : Int).toNat ((wrap64 (Int.tdiv t365 256)) % 256)).set (3 : Int).toNat ((Int.tmod t365 256) % 256))) else (none)) else (none)))) else (none))) else (none)))) else (none))))) else ((some (([(wrap64 (8 - t345)) % 256, 0, 0, 0] : List Int) : List Int)).bind fun y368 => ((spec_l01Two.f a2_1).bind fun t371 => (if y368.length + t371.length < 140737488355328 then ((some (y368 ++ t371 : List Int)).bind fun y374 => ((spec_l01Two.f a2_2).bind fun t377 => (if y374.length + t377.length < 140737488355328 then ((some (y374 ++ t377 : List Int)).bind fun y380 => (if y380.length + l2_3.length < 140737488355328 then ((some (y380 ++ l2_3 : List Int)).bind fun y383 => ((spec_l09EchoSum.f k a0 a1 y383).bind fun t386 => (if 2 < (y383.length : Int) then (if 3 < (y383.length : Int) then (some ((y383.set (2 : Int).toNat ((wrap64 (Int.tdiv t386 256)) % 256)).set (3 : Int).toNat ((Int.tmod t386 256) % 256))) else (none)) else (none)))) else (none))) else (none)))) else (none)))))) = some r := h
  clear h
  replace H := Option.bind_eq_some_iff.mp H
  obtain ⟨t345, A40, H⟩ := H
  replace H : (if (a0.size : Int) = 16 then ((spec_l01Bit.f a2_0 1).bind fun t346 => ((some (([(wrap64 (128 + t346)) % 256, 0, 0, 0] : List Int) : List Int)).bind fun y347 => ((spec_l01Two.f a2_1).bind fun t350 => (if y347.length + t350.length < 140737488355328 then ((some (y347 ++ t350 : List Int)).bind fun y353 => ((spec_l01Two.f a2_2).bind fun t356 => (if y353.length + t356.length < 140737488355328 then ((some (y353 ++ t356 : List Int)).bind fun y359 => (if y359.length + l2_3.length < 140737488355328 then ((some (y359 ++ l2_3 : List Int)).bind fun y362 => ((spec_l09EchoSum.f k a0 a1 y362).bind fun t365 => (if 2 < (y362.length : Int) then (if 3 < (y362.length : Int) then (some ((y362.set (2 : Int).toNat ((wrap64 (Int.tdiv t365 256)) % 256)).set (3 : Int).toNat ((Int.tmod t365 256) % 256))) else (none)) else (none)))) else (none))) else (none)))) else (none))))) else ((some (([(wrap64 (8 - t345)) % 256, 0, 0, 0] : List Int) : List Int)).bind fun y368 => ((spec_l01Two.f a2_1).bind fun t371 => (if y368.length + t371.length < 140737488355328 then ((some (y368 ++ t371 : List Int)).bind fun y374 => ((spec_l01Two.f a2_2).bind fun t377 => (if y374.length + t377.length < 140737488355328 then ((some (y374 ++ t377 : List Int)).bind fun y380 => (if y380.length + l2_3.length < 140737488355328 then ((some (y380 ++ l2_3 : List Int)).bind fun y383 => ((spec_l09EchoSum.f k a0 a1 y383).bind fun t386 => (if 2 < (y383.length : Int) then (if 3 < (y383.length : Int) then (some ((y383.set (2 : Int).toNat ((wrap64 (Int.tdiv t386 256)) % 256)).set (3 : Int).toNat ((Int.tmod t386 256) % 256))) else (none)) else (none)))) else (none))) else (none)))) else (none))))) = some r := H
  have A4 := Aside0.mk A40
  clear A40
  by_cases c5 : (a0.size : Int) = 16
  · rw [if_pos c5] at H
    have c5b0 : ((a0.size : Int) == 16) = true := beq_iff_eq.mpr c5
    have c5b1 : ((a0.size : Int) != 16) = false := bne_eq_false_iff_eq.mpr c5
    clear c5
    replace H := Option.bind_eq_some_iff.mp H
    obtain ⟨t346, A60, H⟩ := H
    replace H : ((some (([(wrap64 (128 + t346)) % 256, 0, 0, 0] : List Int) : List Int)).bind fun y347 => ((spec_l01Two.f a2_1).bind fun t350 => (if y347.length + t350.length < 140737488355328 then ((some (y347 ++ t350 : List Int)).bind fun y353 => ((spec_l01Two.f a2_2).bind fun t356 => (if y353.length + t356.length < 140737488355328 then ((some (y353 ++ t356 : List Int)).bind fun y359 => (if y359.length + l2_3.length < 140737488355328 then ((some (y359 ++ l2_3 : List Int)).bind fun y362 => ((spec_l09EchoSum.f k a0 a1 y362).bind fun t365 => (if 2 < (y362.length : Int) then (if 3 < (y362.length : Int) then (some ((y362.set (2 : Int).toNat ((wrap64 (Int.tdiv t365 256)) % 256)).set (3 : Int).toNat ((Int.tmod t365 256) % 256))) else (none)) else (none)))) else (none))) else (none)))) else (none)))) = some r := H
    have A6 := Aside0.mk A60
    clear A60
    obtain ⟨y347, hy347⟩ : ∃ y_ : List Int, y_ = (([(wrap64 (128 + t346)) % 256, 0, 0, 0] : List Int)) := ⟨_, rfl⟩
    replace H : ((spec_l01Two.f a2_1).bind fun t350 => (if y347.length + t350.length < 140737488355328 then ((some (y347 ++ t350 : List Int)).bind fun y353 => ((spec_l01Two.f a2_2).bind fun t356 => (if y353.length + t356.length < 140737488355328 then ((some (y353 ++ t356 : List Int)).bind fun y359 => (if y359.length + l2_3.length < 140737488355328 then ((some (y359 ++ l2_3 : List Int)).bind fun y362 => ((spec_l09EchoSum.f k a0 a1 y362).bind fun t365 => (if 2 < (y362.length : Int) then (if 3 < (y362.length : Int) then (some ((y362.set (2 : Int).toNat ((wrap64 (Int.tdiv t365 256)) % 256)).set (3 : Int).toNat ((Int.tmod t365 256) % 256))) else (none)) else (none)))) else (none))) else (none)))) else (none))) = some r := by first | (rw [hy347]; with_reducible exact H) | (have H2_ := (Option.bind_some _ _).symm.trans H; rw [hy347]; with_reducible exact H2_) | (have H2_ := (Option.bind_some _ _).symm.trans H; with_reducible exact H2_) | with_reducible exact H | (rw [hy347]; exact H) | exact H
    have Ny347 := Aside0.mk hy347
    clear hy347
    replace H := Option.bind_eq_some_iff.mp H
    obtain ⟨t350, A70, H⟩ := H
    replace H : (if y347.length + t350.length < 140737488355328 then ((some (y347 ++ t350 : List Int)).bind fun y353 => ((spec_l01Two.f a2_2).bind fun t356 => (if y353.length + t356.length < 140737488355328 then ((some (y353 ++ t356 : List Int)).bind fun y359 => (if y359.length + l2_3.length < 140737488355328 then ((some (y359 ++ l2_3 : List Int)).bind fun y362 => ((spec_l09EchoSum.f k a0 a1 y362).bind fun t365 => (if 2 < (y362.length : Int) then (if 3 < (y362.length : Int) then (some ((y362.set (2 : Int).toNat ((wrap64 (Int.tdiv t365 256)) % 256)).set (3 : Int).toNat ((Int.tmod t365 256) % 256))) else (none)) else (none)))) else (none))) else (none)))) else (none)) = some r := H
    have A7 := Aside0.mk A70
    clear A70
    by_cases c8 : y347.length + t350.length < 140737488355328
    · rw [if_pos c8] at H
      have LMc8 := Aside0.mk c8
      clear c8
      obtain ⟨y353, hy353⟩ : ∃ y_ : List Int, y_ = (y347 ++ t350) := ⟨_, rfl⟩
      replace H : ((spec_l01Two.f a2_2).bind fun t356 => (if y353.length + t356.length < 140737488355328 then ((some (y353 ++ t356 : List Int)).bind fun y359 => (if y359.length + l2_3.length < 140737488355328 then ((some (y359 ++ l2_3 : List Int)).bind fun y362 => ((spec_l09EchoSum.f k a0 a1 y362).bind fun t365 => (if 2 < (y362.length : Int) then (if 3 < (y362.length : Int) then (some ((y362.set (2 : Int).toNat ((wrap64 (Int.tdiv t365 256)) % 256)).set (3 : Int).toNat ((Int.tmod t365 256) % 256))) else (none)) else (none)))) else (none))) else (none))) = some r := by first | (rw [hy353]; with_reducible exact H) | (have H2_ := (Option.bind_some _ _).symm.trans H; rw [hy353]; with_reducible exact H2_) | (have H2_ := (Option.bind_some _ _).symm.trans H; with_reducible exact H2_) | with_reducible exact H | (rw [hy353]; exact H) | exact H
      have Ny353 := Aside0.mk hy353
      clear hy353
      replace H := Option.bind_eq_some_iff.mp H
      obtain ⟨t356, A90, H⟩ := H
      replace H : (if y353.length + t356.length < 140737488355328 then ((some (y353 ++ t356 : List Int)).bind fun y359 => (if y359.length + l2_3.length < 140737488355328 then ((some (y359 ++ l2_3 : List Int)).bind fun y362 => ((spec_l09EchoSum.f k a0 a1 y362).bind fun t365 => (if 2 < (y362.length : Int) then (if 3 < (y362.length : Int) then (some ((y362.set (2 : Int).toNat ((wrap64 (Int.tdiv t365 256)) % 256)).set (3 : Int).toNat ((Int.tmod t365 256) % 256))) else (none)) else (none)))) else (none))) else (none)) = some r := H
      have A9 := Aside0.mk A90
      clear A90
      by_cases c10 : y353.length + t356.length < 140737488355328
      · rw [if_pos c10] at H
        have LMc10 := Aside0.mk c10
        clear c10
        obtain ⟨y359, hy359⟩ : ∃ y_ : List Int, y_ = (y353 ++ t356) := ⟨_, rfl⟩
        replace H : (if y359.length + l2_3.length < 140737488355328 then ((some (y359 ++ l2_3 : List Int)).bind fun y362 => ((spec_l09EchoSum.f k a0 a1 y362).bind fun t365 => (if 2 < (y362.length : Int) then (if 3 < (y362.length : Int) then (some ((y362.set (2 : Int).toNat ((wrap64 (Int.tdiv t365 256)) % 256)).set (3 : Int).toNat ((Int.tmod t365 256) % 256))) else (none)) else (none)))) else (none)) = some r := by first | (rw [hy359]; with_reducible exact H) | (have H2_ := (Option.bind_some _ _).symm.trans H; rw [hy359]; with_reducible exact H2_) | (have H2_ := (Option.bind_some _ _).symm.trans H; with_reducible exact H2_) | with_reducible exact H | (rw [hy359]; exact H) | exact H
        have Ny359 := Aside0.mk hy359
        clear hy359
        by_cases c11 : y359.length + l2_3.length < 140737488355328
        · rw [if_pos c11] at H
          have LMc11 := Aside0.mk c11
          clear c11
          obtain ⟨y362, hy362⟩ : ∃ y_ : List Int, y_ = (y359 ++ l2_3) := ⟨_, rfl⟩
          replace H : ((spec_l09EchoSum.f k a0 a1 y362).bind fun t365 => (if 2 < (y362.length : Int) then (if 3 < (y362.length : Int) then (some ((y362.set (2 : Int).toNat ((wrap64 (Int.tdiv t365 256)) % 256)).set (3 : Int).toNat ((Int.tmod t365 256) % 256))) else (none)) else (none))) = some r := by first | (rw [hy362]; with_reducible exact H) | (have H2_ := (Option.bind_some _ _).symm.trans H; rw [hy362]; with_reducible exact H2_) | (have H2_ := (Option.bind_some _ _).symm.trans H; with_reducible exact H2_) | with_reducible exact H | (rw [hy362]; exact H) | exact H
          have Ny362 := Aside0.mk hy362
          clear hy362
          replace H := Option.bind_eq_some_iff.mp H
          obtain ⟨t365, A120, H⟩ := H
          replace H : (if 2 < (y362.length : Int) then (if 3 < (y362.length : Int) then (some ((y362.set (2 : Int).toNat ((wrap64 (Int.tdiv t365 256)) % 256)).set (3 : Int).toNat ((Int.tmod t365 256) % 256))) else (none)) else (none)) = some r := H
          have A12 := Aside0.mk A120
          clear A120
          by_cases c13 : 2 < (y362.length : Int)
          · rw [if_pos c13] at H
            have c13b0 : decide (2 < (y362.length : Int)) = true := decide_eq_true c13
            have c13b1 : decide (2 < y362.length) = true := decide_eq_true (by omega)
            clear c13
            obtain ⟨y366, hy366⟩ : ∃ y_ : List Int, y_ = (y362.set (2 : Int).toNat ((wrap64 (Int.tdiv t365 256)) % 256)) := ⟨_, rfl⟩
            replace H : (if 3 < (y362.length : Int) then (some (y366.set (3 : Int).toNat ((Int.tmod t365 256) % 256))) else (none)) = some r := by first | (rw [hy366]; with_reducible exact H) | (have H2_ := (Option.bind_some _ _).symm.trans H; rw [hy366]; with_reducible exact H2_) | (have H2_ := (Option.bind_some _ _).symm.trans H; with_reducible exact H2_) | with_reducible exact H | (rw [hy366]; exact H) | exact H
            have Ny366 := Aside0.mk hy366
            clear hy366
            by_cases c15 : 3 < (y362.length : Int)
            · rw [if_pos c15] at H
              have c15b0 : decide (3 < (y362.length : Int)) = true := decide_eq_true c15
              have c15b1 : decide (3 < y362.length) = true := decide_eq_true (by omega)
              clear c15
              obtain ⟨y367, hy367⟩ : ∃ y_ : List Int, y_ = (y366.set (3 : Int).toNat ((Int.tmod t365 256) % 256)) := ⟨_, rfl⟩
              replace H : (some y367) = some r := by first | (rw [hy367]; with_reducible exact H) | (have H2_ := (Option.bind_some _ _).symm.trans H; rw [hy367]; with_reducible exact H2_) | (have H2_ := (Option.bind_some _ _).symm.trans H; with_reducible exact H2_) | with_reducible exact H | (rw [hy367]; exact H) | exact H
              have Ny367 := Aside0.mk hy367
              clear hy367
              obtain rfl := Option.some.inj H
              go_enter Try.func106, Try.ntmps106
              try go_wp2_with (first | ((with_reducible refine gate_dst (N := 5) rfl ?_); refine box_event ?hg (N := 5) ?hd (cs := #[.bool a2_0, .int .i64 a2_1, .int .i64 a2_2, .slice A2_3 l2_3.length c2_3]) (t := 61) ?hr ?_; (case hd => rfl); (case hg => rfl); (case hr => first | (go_simp; done) | (go_simp; rfl)); intro gb344 hg w17 hbox hb; have n0_ := Aside0.mk (below_step (by repeat (first | (with_reducible first | exact HB.out | apply below_alloc | apply pw_below_drewN | apply below_drew1) | exact HB.out)) hb); have n1_ := Aside0.mk (hbox); have n2_ := Aside0.mk ((by rw [hg]; exact (below_size (by repeat (first | (with_reducible first | exact HB.out | apply below_alloc | apply pw_below_drewN | apply below_drew1) | exact HB.out))) : w.heap.size ≤ gb344)); have n3_ := Aside0.mk ((by rw [hg]; exact (below_size (by repeat (first | (with_reducible first | exact HB.out | apply below_alloc | apply pw_below_drewN | apply below_drew1) | exact HB.out))) : w.heap.size ≤ gb344)); clear HB; have HB := n0_; have BK344 := n1_; have GW344 := n2_; have GE344 := n3_; clear n0_ n1_ n2_ n3_; clear hb hbox hg; have hcz18_0 : w17.cell? ⟨gb344, 0, none⟩ = some (.bool a2_0) := (blk_cell BK344.out 0).trans rfl; have hcz18_1 : w17.cell? ⟨gb344, 1, none⟩ = some (.int .i64 a2_1) := (blk_cell BK344.out 1).trans rfl; have hcz18_2 : w17.cell? ⟨gb344, 2, none⟩ = some (.int .i64 a2_2) := (blk_cell BK344.out 2).trans rfl; have hcz18_3 : w17.cell? ⟨gb344, 3, none⟩ = some (.slice A2_3 l2_3.length c2_3) := (blk_cell BK344.out 3).trans rfl; have hfz18_0 := blk_frozen BK344.out 0; have hfz18_1 := blk_frozen BK344.out 1; have hfz18_2 := blk_frozen BK344.out 2; have hfz18_3 := blk_frozen BK344.out 3) | ((with_reducible refine gate_callee (f := 130) rfl ?_); refine goesL_ (some 12) rfl rfl Try.func130 (by kernel_rfl) rfl #[.bool a2_0, .int .i64 8] rfl (by (try simp only [List.map_toArray, List.map_cons, List.map_nil]); first | done | rfl | (simp only [List.length_drop, List.length_take]; rfl)) ?_; (with_reducible refine (spec_l01Bit.calls a2_0 8 t345 _ A4.out).mono ?_); rintro e w' ⟨rfl, ⟨nd, rfl⟩⟩; refine ⟨_, rfl, ?_⟩; (try (rw [drewN_self w17]; generalize hq_ : World.drewN w17 _ = w17; have n0_ : Aside0 (w17.heap[gb344]? = some (.cells #[.bool a2_0, .int .i64 a2_1, .int .i64 a2_2, .slice A2_3 l2_3.length c2_3] 61 (0, 0))) := ⟨by rw [← hq_]; exact (by (with_reducible repeat (first | refine blk_drewN ?_ _ | refine blk_drew ?_ | refine blk_alloc ?_ _)); exact BK344.out)⟩; have n1_ : Aside0 (Below w.heap.size w w17) := ⟨by rw [← hq_]; exact (by repeat (first | (with_reducible first | exact HB.out | apply below_alloc | apply pw_below_drewN | apply below_drew1 | refine below_set ?_ GE344.out) | exact HB.out))⟩; clear BK344 HB hq_; have BK344 := n0_; have HB := n1_; clear n0_ n1_)); have hcz19_0 : w17.cell? ⟨gb344, 0, none⟩ = some (.bool a2_0) := (blk_cell BK344.out 0).trans rfl; have hcz19_1 : w17.cell? ⟨gb344, 1, none⟩ = some (.int .i64 a2_1) := (blk_cell BK344.out 1).trans rfl; have hcz19_2 : w17.cell? ⟨gb344, 2, none⟩ = some (.int .i64 a2_2) := (blk_cell BK344.out 2).trans rfl; have hcz19_3 : w17.cell? ⟨gb344, 3, none⟩ = some (.slice A2_3 l2_3.length c2_3) := (blk_cell BK344.out 3).trans rfl; have hfz19_0 := blk_frozen BK344.out 0; have hfz19_1 := blk_frozen BK344.out 1; have hfz19_2 := blk_frozen BK344.out 2; have hfz19_3 := blk_frozen BK344.out 3) | ((with_reducible refine gate_callee (f := 130) rfl ?_); refine goesL_ (some 19) rfl rfl Try.func130 (by kernel_rfl) rfl #[.bool a2_0, .int .i64 1] rfl (by (try simp only [List.map_toArray, List.map_cons, List.map_nil]); first | done | rfl | (simp only [List.length_drop, List.length_take]; rfl)) ?_; (with_reducible refine (spec_l01Bit.calls a2_0 1 t346 _ A6.out).mono ?_); rintro e w' ⟨rfl, ⟨nd, rfl⟩⟩; refine ⟨_, rfl, ?_⟩; (try (rw [drewN_self w17]; generalize hq_ : World.drewN w17 _ = w17; have n0_ : Aside0 (w17.heap[gb344]? = some (.cells #[.bool a2_0, .int .i64 a2_1, .int .i64 a2_2, .slice A2_3 l2_3.length c2_3] 61 (0, 0))) := ⟨by rw [← hq_]; exact (by (with_reducible repeat (first | refine blk_drewN ?_ _ | refine blk_drew ?_ | refine blk_alloc ?_ _)); exact BK344.out)⟩; have n1_ : Aside0 (Below w.heap.size w w17) := ⟨by rw [← hq_]; exact (by repeat (first | (with_reducible first | exact HB.out | apply below_alloc | apply pw_below_drewN | apply below_drew1 | refine below_set ?_ GE344.out) | exact HB.out))⟩; clear BK344 HB hq_; have BK344 := n0_; have HB := n1_; clear n0_ n1_))) | ((with_reducible refine gate_dst (N := 23) rfl ?_); refine Kd.R_lit (Kd.int .u8) _ 5 ?hg (N := 23) ?hd (xs := ([(wrap64 (128 + t346)) % 256, 0, 0, 0] : List Int)) (inner := [.int .u8 ((wrap64 (128 + t346)) % 256), .int .u8 0, .int .u8 0, .int .u8 0]) (ok := fun _ => True) (okp := fun _ => True) ?hr ?hp (fun _ hk => hk) trivial (Below.refl _ _) (Nat.le_refl _) (by simp) ?_; (case hd => rfl); (case hg => rfl); (case hr => first | (go_simp; done) | (go_simp; rfl)); (case hp => exact (Reps.one (show Kd.M (Kd.int .u8) _ _ _ ((wrap64 (128 + t346)) % 256) [.int .u8 ((wrap64 (128 + t346)) % 256)] from rfl) (Reps.one (show Kd.M (Kd.int .u8) _ _ _ 0 [.int .u8 0] from rfl) (Reps.one (show Kd.M (Kd.int .u8) _ _ _ 0 [.int .u8 0] from rfl) (Reps.one (show Kd.M (Kd.int .u8) _ _ _ 0 [.int .u8 0] from rfl) (Reps.none _ _)))))); intro v348 w20 ho21 hb hg_ hnew_; clear hg_ hnew_; (first | rw [← Ny347.out] at ho21 | (simp only [Int.reduceToNat] at ho21; rw [← Ny347.out] at ho21)); have n0_ := Aside0.mk (Kd.R_lower ho21 (below_size (by repeat (first | (with_reducible first | exact HB.out | apply below_alloc | apply pw_below_drewN | apply below_drew1 | refine below_set ?_ GE344.out) | exact HB.out)))); have n1_ := Aside0.mk (blk_below (g := gb344) (o := .cells #[.bool a2_0, .int .i64 a2_1, .int .i64 a2_2, .slice A2_3 l2_3.length c2_3] 61 (0, 0)) (by (with_reducible repeat (first | refine blk_drewN ?_ _ | refine blk_drew ?_ | refine blk_alloc ?_ _)); exact BK344.out) hb); have n2_ := Aside0.mk (below_step (by repeat (first | (with_reducible first | exact HB.out | apply below_alloc | apply pw_below_drewN | apply below_drew1 | refine below_set ?_ GE344.out) | exact HB.out)) hb); clear BK344; clear HB; have HO349 := n0_; have BK344 := n1_; have HB := n2_; clear n0_ n1_ n2_; clear hb ho21; have hcz22_0 : w20.cell? ⟨gb344, 0, none⟩ = some (.bool a2_0) := (blk_cell BK344.out 0).trans rfl; have hcz22_1 : w20.cell? ⟨gb344, 1, none⟩ = some (.int .i64 a2_1) := (blk_cell BK344.out 1).trans rfl; have hcz22_2 : w20.cell? ⟨gb344, 2, none⟩ = some (.int .i64 a2_2) := (blk_cell BK344.out 2).trans rfl; have hcz22_3 : w20.cell? ⟨gb344, 3, none⟩ = some (.slice A2_3 l2_3.length c2_3) := (blk_cell BK344.out 3).trans rfl; have hfz22_0 := blk_frozen BK344.out 0; have hfz22_1 := blk_frozen BK344.out 1; have hfz22_2 := blk_frozen BK344.out 2; have hfz22_3 := blk_frozen BK344.out 3) | ((with_reducible refine gate_callee (f := 132) rfl ?_); refine goesL_ (some 26) rfl rfl Try.func132 (by kernel_rfl) rfl #[.int .i64 a2_1] rfl (by (try simp only [List.map_toArray, List.map_cons, List.map_nil]); first | done | rfl | (simp only [List.length_drop, List.length_take]; rfl)) ?_; (with_reducible refine (spec_l01Two.calls a2_1 t350 _ A7.out).mono ?_); rintro e w23 ⟨v351, rfl, ho0, hb⟩; refine ⟨_, rfl, ?_⟩; have n0_ := Aside0.mk (Kd.R_elder' (by (with_reducible repeat (first | apply Kd.R_alloc | apply Kd.R_drewN | apply Kd.R_drew)); exact HO349.out) (Kd.R_base ho0) hb); have n1_ := Aside0.mk (Kd.R_lower (Kd.R_new' ho0 (Kd.R_lt (by (with_reducible repeat (first | apply Kd.R_alloc | apply Kd.R_drewN | apply Kd.R_drew)); exact HO349.out))) (below_size (by repeat (first | (with_reducible first | exact HB.out | apply below_alloc | apply pw_below_drewN | apply below_drew1 | refine below_set ?_ GE344.out) | exact HB.out)))); have n2_ := Aside0.mk (blk_below (g := gb344) (o := .cells #[.bool a2_0, .int .i64 a2_1, .int .i64 a2_2, .slice A2_3 l2_3.length c2_3] 61 (0, 0)) (by (with_reducible repeat (first | refine blk_drewN ?_ _ | refine blk_drew ?_ | refine blk_alloc ?_ _)); exact BK344.out) hb); have n3_ := Aside0.mk (below_step (by repeat (first | (with_reducible first | exact HB.out | apply below_alloc | apply pw_below_drewN | apply below_drew1 | refine below_set ?_ GE344.out) | exact HB.out)) hb); clear HO349; clear BK344; clear HB; have HO349 := n0_; have HO352 := n1_; have BK344 := n2_; have HB := n3_; clear n0_ n1_ n2_ n3_; (try clear hb); (try clear hb2); (try clear hk); (try clear hi); (try clear ho0); obtain ⟨Ao25, co25, eo25⟩ := Kd.R_slice HO352.out; subst eo25) | ((with_reducible refine gate_builtin (b := .append) (xs := #[.tmp 23, .tmp 26]) rfl ?_); at_builtin; refine Kd.R_append_rows (Kd.int .u8) (w0 := w) w.heap.size rfl (.tmp 23) (.tmp 26) 25 5 (.int .u8 0) 1 rfl Try.underlying25 info5 rfl (by decide) (by omega) v348 y347 t350 _ _ _ (fun k_ => some k_ ≠ (.slice Ao25 t350.length co25 : Value).ownBlock) (fun _ => False) rfl rfl ?aO ?aR (fun _ _ h => h) (fun _ h => h.elim) ?aF ?aB ?aS ?aL ?_; (case aR => repeat (first | exact (Kd.R_reads' HO352.out).2.2 | (with_reducible refine Kd.C_alloc ?_ _) | (with_reducible refine Kd.C_drewN ?_ _) | (with_reducible refine Kd.C_drew ?_))); (case aB => exact (by repeat (first | (with_reducible first | exact HB.out | apply below_alloc | apply pw_below_drewN | apply below_drew1 | refine below_set ?_ GE344.out) | exact HB.out))); (case aF => exact (fun k_ hk => Kd.fresh' (Kd.R_lt (by (with_reducible repeat (first | apply Kd.R_alloc | apply Kd.R_drewN | apply Kd.R_drew)); exact HO352.out)) k_ hk)); (case aO => exact (by (with_reducible repeat (first | apply Kd.R_alloc | apply Kd.R_drewN | apply Kd.R_drew)); (first | exact Kd.R_mono HO349.out (fun _ hk => hk.2) | exact HO349.out))); (case aS => exact (below_size (by repeat (first | (with_reducible first | exact HB.out | apply below_alloc | apply pw_below_drewN | apply below_drew1 | refine below_set ?_ GE344.out) | exact HB.out)))); (case aL => have := LMc8.out; omega); intro v354 w24 ho hb hg hat; rw [← Ny353.out] at ho; have n0_ := Aside0.mk (blk_grown (g := gb344) (o := .cells #[.bool a2_0, .int .i64 a2_1, .int .i64 a2_2, .slice A2_3 l2_3.length c2_3] 61 (0, 0)) (by (with_reducible repeat (first | refine blk_drewN ?_ _ | refine blk_drew ?_ | refine blk_alloc ?_ _)); exact BK344.out) hg (Kd.R_ne HO349.out BK344.out (by decide))); have n1_ := Aside0.mk (Kd.R_after (ok := (fun _ => True)) (by (with_reducible repeat (first | apply Kd.R_alloc | apply Kd.R_drewN | apply Kd.R_drew)); (first | exact HO352.out | exact Kd.R_mono HO352.out (fun _ hk => ⟨trivial, hk⟩) | exact Kd.R_mono HO352.out (fun _ hk => by simp only [and_assoc] at hk ⊢; exact hk))) hg hat); have n2_ := Aside0.mk (hb); have n3_ := Aside0.mk (ho); clear BK344; clear HO352; clear HB; clear HO349; have BK344 := n0_; have HO352 := n1_; have HB := n2_; have HO355 := n3_; clear n0_ n1_ n2_ n3_; clear ho hb hg hat))
              have n0_ := Aside0.mk (Kd.R_drew HO352.out)
              have n1_ := Aside0.mk (Kd.R_drew HO355.out)
              have n2_ := Aside0.mk (blk_drew BK344.out)
              have n3_ := Aside0.mk (below_drew1 HB.out)
              clear HO352
              clear HO355
              clear BK344
              clear HB
              have HO352 := n0_
              have HO355 := n1_
              have BK344 := n2_
              have HB := n3_
              clear n0_ n1_ n2_ n3_
              refine start_ (n := 9) (S := fun w' => w'.cell? ⟨gb344, 0, none⟩ = some (.bool a2_0) ∧ w'.cell? ⟨gb344, 1, none⟩ = some (.int .i64 a2_1) ∧ w'.cell? ⟨gb344, 2, none⟩ = some (.int .i64 a2_2) ∧ w'.cell? ⟨gb344, 3, none⟩ = some (.slice A2_3 l2_3.length c2_3)) (ds := []) #[false, false, false, false, false, false, false, false, false] (by kernel_rfl) rfl rfl ⟨(blk_cell BK344.out 0).trans rfl, (blk_cell BK344.out 1).trans rfl, (blk_cell BK344.out 2).trans rfl, (blk_cell BK344.out 3).trans rfl⟩ (fun hHeld => ?_); refine with_tabW spec_l09EchoBytes.tab5 spec_l09EchoBytes.bits5 (fun HT_ HW_ => ?_)
              generalize w24.drew = w26 at HO352 HO355 BK344 HB hHeld ⊢
              refine pure_ (i := 0) (N := some 28) (v := ?_) (a' := ?_) #[true, false, false, false, false, false, false, false, false] rfl rfl (any_of HT_.out (by kernel_rfl)) (fun _ _ _ h => h) (Or.inl ⟨by rfl, ?_⟩) ?_ ?_
              rotate_left
              · intro w'
                go_simp
                with_reducible rfl
              rotate_left
              · simp only [Act.put, List.setIfInBounds_toArray, List.set_cons_zero, List.set_cons_succ, i64_w, i32_w]
                rfl
              refine pure_ (i := 1) (N := some 29) (v := ?_) (a' := ?_) #[true, true, false, false, false, false, false, false, false] rfl rfl (any_of HT_.out (by kernel_rfl)) (fun _ _ _ h => h) (Or.inl ⟨by rfl, ?_⟩) ?_ ?_
              rotate_left
              · intro w'
                go_simp
                with_reducible rfl
              rotate_left
              · simp only [Act.put, List.setIfInBounds_toArray, List.set_cons_zero, List.set_cons_succ, i64_w, i32_w]
                rfl
              refine pure_ (i := 5) (N := some 33) (v := ?_) (a' := ?_) #[true, true, false, false, false, true, false, false, false] rfl rfl (any_of HT_.out (by kernel_rfl)) (fun _ _ _ h => h) (Or.inl ⟨by rfl, ?_⟩) ?_ ?_
              rotate_left
              · intro w'
                go_simp
                with_reducible rfl
              rotate_left
              · simp only [Act.put, List.setIfInBounds_toArray, List.set_cons_zero, List.set_cons_succ, i64_w, i32_w]
                rfl
              refine take_ (i := 2) (N := some 30) (v := ?_) (a' := ?_) #[true, true, true, false, false, true, false, false, false] rfl rfl (take_ofW HT_.out HW_.out (by kernel_rfl)) (fun _ _ _ h => h) (Or.inl ⟨by rfl, ?_⟩) hHeld ?_ ?_
              rotate_left
              · rintro w' ⟨s0, s1, s2, s3⟩
                go_simp
                with_reducible rfl
              rotate_left
              · simp only [Act.put, List.setIfInBounds_toArray, List.set_cons_zero, List.set_cons_succ, i64_w, i32_w]
                rfl
              refine take_ (i := 6) (N := some 34) (v := ?_) (a' := ?_) #[true, true, true, false, false, true, true, false, false] rfl rfl (take_ofW HT_.out HW_.out (by kernel_rfl)) (fun _ _ _ h => h) (Or.inl ⟨by rfl, ?_⟩) hHeld ?_ ?_
              rotate_left
              · rintro w' ⟨s0, s1, s2, s3⟩
                go_simp
                with_reducible rfl
              rotate_left
              · simp only [Act.put, List.setIfInBounds_toArray, List.set_cons_zero, List.set_cons_succ, i64_w, i32_w]
                rfl
              refine one_ (i := 3) (N := some 31) #[true, true, true, true, false, true, true, false, false] rfl rfl (one_of HT_.out (by kernel_rfl)) (by decide) (fun K hK => ?_)
              refine goes_ Try.func132 (by kernel_rfl) rfl #[.int .i64 a2_2] (by rfl) rfl rfl (by (try simp only [List.map_toArray, List.map_cons, List.map_nil]); first | done | rfl | (simp only [List.length_drop, List.length_take]; rfl)) ?_
              with_reducible refine (spec_l01Two.calls a2_2 t356 _ A9.out).mono ?_
              rintro e w27 ⟨v357, rfl, ho0, hb⟩
              refine ⟨_, rfl, ?_⟩
              have n0_ := Aside0.mk (Kd.R_elder' (by (with_reducible repeat (first | apply Kd.R_alloc | apply Kd.R_drewN | apply Kd.R_drew)); exact HO352.out) (Kd.R_base ho0) hb)
              have n1_ := Aside0.mk (Kd.R_elder' (by (with_reducible repeat (first | apply Kd.R_alloc | apply Kd.R_drewN | apply Kd.R_drew)); exact HO355.out) (Kd.R_base ho0) hb)
              have n2_ := Aside0.mk (Kd.R_lower (Kd.R_new' (Kd.R_new' ho0 (Kd.R_lt (by (with_reducible repeat (first | apply Kd.R_alloc | apply Kd.R_drewN | apply Kd.R_drew)); exact HO352.out))) (Kd.R_lt (by (with_reducible repeat (first | apply Kd.R_alloc | apply Kd.R_drewN | apply Kd.R_drew)); exact HO355.out))) (below_size (by repeat (first | (with_reducible first | exact HB.out | apply below_alloc | apply pw_below_drewN | apply below_drew1 | refine below_set ?_ GE344.out) | exact HB.out))))
              have n3_ := Aside0.mk (blk_below (g := gb344) (o := .cells #[.bool a2_0, .int .i64 a2_1, .int .i64 a2_2, .slice A2_3 l2_3.length c2_3] 61 (0, 0)) (by (with_reducible repeat (first | refine blk_drewN ?_ _ | refine blk_drew ?_ | refine blk_alloc ?_ _)); exact BK344.out) hb)
              have n4_ := Aside0.mk (below_step (by repeat (first | (with_reducible first | exact HB.out | apply below_alloc | apply pw_below_drewN | apply below_drew1 | refine below_set ?_ GE344.out) | exact HB.out)) hb)
              clear HO352
              clear HO355
              clear BK344
              clear HB
              have HO352 := n0_
              have HO355 := n1_
              have HO358 := n2_
              have BK344 := n3_
              have HB := n4_
              clear n0_ n1_ n2_ n3_ n4_
              (try clear hb)
              (try clear hb2)
              (try clear hk)
              (try clear hi)
              (try clear ho0)
              obtain ⟨Ao29, co29, eo29⟩ := Kd.R_slice HO358.out
              (first | subst eo29 | (injection eo29 with f1_ f2_ f3_; have f4_ := f1_.symm; have f5_ := f3_.symm; clear f1_ f2_ f3_; subst f4_; subst f5_))
              refine hK.out _ _ ⟨(blk_cell BK344.out 0).trans rfl, (blk_cell BK344.out 1).trans rfl, (blk_cell BK344.out 2).trans rfl, (blk_cell BK344.out 3).trans rfl⟩ (fun hHeld => ?_)
              clear hK K
              refine norm_ (a' := ?_) ?_ ?_
              rotate_left
              · show Act.put _ (some 31) _ = _
                simp only [Act.put, List.setIfInBounds_toArray, List.set_cons_zero, List.set_cons_succ, i64_w, i32_w]
                rfl
              refine one_ (i := 4) (N := some 32) #[true, true, true, true, true, true, true, false, false] rfl rfl (one_of HT_.out (by kernel_rfl)) (by decide) (fun K hK => ?_)
              refine Kd.R_append_rows_step (Kd.int .u8) (w0 := w) w.heap.size (by rfl) (.tmp 28) (.tmp 31) 25 5 (.int .u8 0) 1 rfl Try.underlying25 info5 rfl (by decide) (by omega) v354 y353 t356 _ _ _ (fun k_ => some k_ ≠ (.slice Ao25 t350.length co25 : Value).ownBlock ∧ some k_ ≠ (.slice Ao29 t356.length co29 : Value).ownBlock) (fun _ => False) rfl rfl ?aO ?aR (fun _ _ h => h) (fun _ h => h.elim) ?aF ?aB ?aS ?aL ?_
              (case aR => repeat (first | exact (Kd.R_reads' HO358.out).2.2 | (with_reducible refine Kd.C_alloc ?_ _) | (with_reducible refine Kd.C_drewN ?_ _) | (with_reducible refine Kd.C_drew ?_)))
              (case aB => exact (by repeat (first | (with_reducible first | exact HB.out | apply below_alloc | apply pw_below_drewN | apply below_drew1 | refine below_set ?_ GE344.out) | exact HB.out)))
              (case aF => exact (fun k_ hk => ⟨Kd.fresh' (Kd.R_lt (by (with_reducible repeat (first | apply Kd.R_alloc | apply Kd.R_drewN | apply Kd.R_drew)); exact HO352.out)) k_ hk, Kd.fresh' (Kd.R_lt (by (with_reducible repeat (first | apply Kd.R_alloc | apply Kd.R_drewN | apply Kd.R_drew)); exact HO358.out)) k_ hk⟩))
              (case aO => exact (by (with_reducible repeat (first | apply Kd.R_alloc | apply Kd.R_drewN | apply Kd.R_drew)); exact HO355.out))
              (case aS => exact (below_size (by repeat (first | (with_reducible first | exact HB.out | apply below_alloc | apply pw_below_drewN | apply below_drew1 | refine below_set ?_ GE344.out) | exact HB.out))))
              (case aL => have := LMc10.out; omega)
              intro v360 w28 ho hb hg hat
              rw [← Ny359.out] at ho
              have n0_ := Aside0.mk (blk_grown (g := gb344) (o := .cells #[.bool a2_0, .int .i64 a2_1, .int .i64 a2_2, .slice A2_3 l2_3.length c2_3] 61 (0, 0)) (by (with_reducible repeat (first | refine blk_drewN ?_ _ | refine blk_drew ?_ | refine blk_alloc ?_ _)); exact BK344.out) hg (Kd.R_ne HO355.out BK344.out (by decide)))
              have n1_ := Aside0.mk (Kd.R_after (ok := (fun k_ => some k_ ≠ (.slice Ao29 t356.length co29 : Value).ownBlock)) (by (with_reducible repeat (first | apply Kd.R_alloc | apply Kd.R_drewN | apply Kd.R_drew)); exact Kd.R_mono HO352.out (fun _ hk => ⟨hk.2, hk.1.2⟩)) hg hat)
              have n2_ := Aside0.mk (Kd.R_after (ok := (fun k_ => some k_ ≠ (.slice Ao25 t350.length co25 : Value).ownBlock)) (by (with_reducible repeat (first | apply Kd.R_alloc | apply Kd.R_drewN | apply Kd.R_drew)); exact Kd.R_mono HO358.out (fun _ hk => ⟨hk.1.2, hk.2⟩)) hg hat)
              have n3_ := Aside0.mk (hb)
              have n4_ := Aside0.mk (ho)
              clear BK344
              clear HO352
              clear HO358
              clear HB
              clear HO355
              have BK344 := n0_
              have HO352 := n1_
              have HO358 := n2_
              have HB := n3_
              have HO361 := n4_
              clear n0_ n1_ n2_ n3_ n4_
              clear ho hb hg hat
              refine hK.out _ _ ⟨(blk_cell BK344.out 0).trans rfl, (blk_cell BK344.out 1).trans rfl, (blk_cell BK344.out 2).trans rfl, (blk_cell BK344.out 3).trans rfl⟩ (fun hHeld => ?_)
              clear hK K
              refine norm_ (a' := ?_) ?_ ?_
              rotate_left
              · show Act.put _ (some 32) _ = _
                simp only [Act.put, List.setIfInBounds_toArray, List.set_cons_zero, List.set_cons_succ, i64_w, i32_w]
                rfl
              refine one_ (i := 7) (N := some 35) #[true, true, true, true, true, true, true, true, false] rfl rfl (one_of HT_.out (by kernel_rfl)) (by decide) (fun K hK => ?_)
              refine Kd.R_append_rows_step (Kd.int .u8) (w0 := w) w.heap.size (by rfl) (.tmp 32) (.tmp 34) 25 5 (.int .u8 0) 1 rfl Try.underlying25 info5 rfl (by decide) (by omega) v360 y359 l2_3 _ _ _ (fun k_ => some k_ ≠ (.slice Ao25 t350.length co25 : Value).ownBlock ∧ some k_ ≠ (.slice Ao29 t356.length co29 : Value).ownBlock) (fun _ => False) rfl rfl ?aO ?aR (fun _ _ h => h) (fun _ h => h.elim) ?aF ?aB ?aS ?aL ?_
              (case aR => repeat (first | exact (Kd.C_below HR2_3.out HB.out) | (with_reducible refine Kd.C_alloc ?_ _) | (with_reducible refine Kd.C_drewN ?_ _) | (with_reducible refine Kd.C_drew ?_)))
              (case aB => exact (by repeat (first | (with_reducible first | exact HB.out | apply below_alloc | apply pw_below_drewN | apply below_drew1 | refine below_set ?_ GE344.out) | exact HB.out)))
              (case aF => exact (fun k_ hk => ⟨Kd.fresh' (Kd.R_lt (by (with_reducible repeat (first | apply Kd.R_alloc | apply Kd.R_drewN | apply Kd.R_drew)); exact HO352.out)) k_ hk, Kd.fresh' (Kd.R_lt (by (with_reducible repeat (first | apply Kd.R_alloc | apply Kd.R_drewN | apply Kd.R_drew)); exact HO358.out)) k_ hk⟩))
              (case aO => exact (by (with_reducible repeat (first | apply Kd.R_alloc | apply Kd.R_drewN | apply Kd.R_drew)); exact HO361.out))
              (case aS => exact (below_size (by repeat (first | (with_reducible first | exact HB.out | apply below_alloc | apply pw_below_drewN | apply below_drew1 | refine below_set ?_ GE344.out) | exact HB.out))))
              (case aL => have := LMc11.out; omega)
              intro v363 w30 ho hb hg hat
              rw [← Ny362.out] at ho
              have n0_ := Aside0.mk (blk_grown (g := gb344) (o := .cells #[.bool a2_0, .int .i64 a2_1, .int .i64 a2_2, .slice A2_3 l2_3.length c2_3] 61 (0, 0)) (by (with_reducible repeat (first | refine blk_drewN ?_ _ | refine blk_drew ?_ | refine blk_alloc ?_ _)); exact BK344.out) hg (Kd.R_ne HO361.out BK344.out (by decide)))
              have n1_ := Aside0.mk (Kd.R_after (ok := (fun k_ => some k_ ≠ (.slice Ao29 t356.length co29 : Value).ownBlock)) (by (with_reducible repeat (first | apply Kd.R_alloc | apply Kd.R_drewN | apply Kd.R_drew)); (first | exact HO352.out | exact Kd.R_mono HO352.out (fun _ hk => ⟨trivial, hk⟩) | exact Kd.R_mono HO352.out (fun _ hk => by simp only [and_assoc] at hk ⊢; exact hk))) hg hat)
              have n2_ := Aside0.mk (Kd.R_after (ok := (fun k_ => some k_ ≠ (.slice Ao25 t350.length co25 : Value).ownBlock)) (by (with_reducible repeat (first | apply Kd.R_alloc | apply Kd.R_drewN | apply Kd.R_drew)); (first | exact HO358.out | exact Kd.R_mono HO358.out (fun _ hk => ⟨trivial, hk⟩) | exact Kd.R_mono HO358.out (fun _ hk => by simp only [and_assoc] at hk ⊢; exact hk))) hg hat)
              have n3_ := Aside0.mk (hb)
              have n4_ := Aside0.mk (ho)
              clear BK344
              clear HO352
              clear HO358
              clear HB
              clear HO361
              have BK344 := n0_
              have HO352 := n1_
              have HO358 := n2_
              have HB := n3_
              have HO364 := n4_
              clear n0_ n1_ n2_ n3_ n4_
              clear ho hb hg hat
              refine hK.out _ _ ⟨(blk_cell BK344.out 0).trans rfl, (blk_cell BK344.out 1).trans rfl, (blk_cell BK344.out 2).trans rfl, (blk_cell BK344.out 3).trans rfl⟩ (fun hHeld => ?_)
              clear hK K
              refine norm_ (a' := ?_) ?_ ?_
              rotate_left
              · show Act.put _ (some 35) _ = _
                simp only [Act.put, List.setIfInBounds_toArray, List.set_cons_zero, List.set_cons_succ, i64_w, i32_w]
                rfl
              refine pure_ (i := 8) (N := some 8) (v := ?_) (a' := ?_) #[true, true, true, true, true, true, true, true, true] rfl rfl (any_of HT_.out (by kernel_rfl)) (fun _ _ _ h => h) (Or.inl ⟨by rfl, ?_⟩) ?_ ?_
              rotate_left
              · intro w'
                go_simp
                with_reducible rfl
              rotate_left
              · simp only [Act.put, List.setIfInBounds_toArray, List.set_cons_zero, List.set_cons_succ, i64_w, i32_w]
                rfl
              refine done_ (done_of HT_.out (by kernel_rfl)) ?_
              obtain ⟨Ao31, co31, eo31⟩ := Kd.R_slice HO364.out
              subst eo31
              try go_wp2_with (first | ((with_reducible refine gate_callee (f := 139) rfl ?_); refine goesL_ (some 39) rfl rfl Try.func139 (by kernel_rfl) rfl #[.string a0, .string a1, .slice Ao31 y362.length co31] rfl (by (try simp only [List.map_toArray, List.map_cons, List.map_nil]); first | done | rfl | (simp only [List.length_drop, List.length_take]; rfl)) ?_; (with_reducible refine (spec_l09EchoSum.calls k a0 a1 _ _ y362 t365 _ ?side1 ?side2 A12.out).mono ?_); (case side1 => repeat (first | exact (Kd.R_reads' HO364.out).2.2 | (with_reducible refine Kd.C_alloc ?_ _) | (with_reducible refine Kd.C_drewN ?_ _) | (with_reducible refine Kd.C_drew ?_))); (case side2 => exact (Kd.R_reads' HO364.out).2.1); rintro e w32 ⟨rfl, hb⟩; refine ⟨_, rfl, ?_⟩; have n0_ := Aside0.mk (Kd.R_below (by (with_reducible repeat (first | apply Kd.R_alloc | apply Kd.R_drewN | apply Kd.R_drew)); exact HO352.out) hb); have n1_ := Aside0.mk (Kd.R_below (by (with_reducible repeat (first | apply Kd.R_alloc | apply Kd.R_drewN | apply Kd.R_drew)); exact HO358.out) hb); have n2_ := Aside0.mk (Kd.R_below (by (with_reducible repeat (first | apply Kd.R_alloc | apply Kd.R_drewN | apply Kd.R_drew)); exact HO364.out) hb); have n3_ := Aside0.mk (blk_below (g := gb344) (o := .cells #[.bool a2_0, .int .i64 a2_1, .int .i64 a2_2, .slice A2_3 l2_3.length c2_3] 61 (0, 0)) (by (with_reducible repeat (first | refine blk_drewN ?_ _ | refine blk_drew ?_ | refine blk_alloc ?_ _)); exact BK344.out) hb); have n4_ := Aside0.mk (below_step (by repeat (first | (with_reducible first | exact HB.out | apply below_alloc | apply pw_below_drewN | apply below_drew1 | refine below_set ?_ GE344.out) | exact HB.out)) hb); clear HO352; clear HO358; clear HO364; clear BK344; clear HB; have HO352 := n0_; have HO358 := n1_; have HO364 := n2_; have BK344 := n3_; have HB := n4_; clear n0_ n1_ n2_ n3_ n4_; (try clear hb); (try clear hb2); (try clear hk); (try clear hi); have p14 : 0 ≤ (2 : Int) := (by omega); have q14 : (2 : Int) < ((y362.length : Int) : Int) := of_decide_eq_true (by first | (with_reducible assumption) | assumption); have qi14 : (2 < y362.length) = True := eq_true (by omega); obtain ⟨go14, co14, eo14, gb14, gl14, cl14, HG14⟩ := Kd.R_form HO364.out (by omega); (first | cases eo14 | (injection eo14 with ea_ en_ ec_; (first | subst ea_ | (injection ea_ with ea_; subst ea_)); subst ec_; clear en_)); have GB14 := Aside0.mk gb14; have GG14 := Aside0.mk HG14; clear gb14 gl14 HG14; obtain ⟨hx14_0, hf14_0⟩ := Kd.R_celln 0 HO364.out (2 : Int) p14 q14; (try rw [show ((2 : Int)).toNat = 2 from rfl] at hx14_0); (try simp only [Nat.reduceMul, Nat.zero_mul, Nat.zero_add, Nat.reduceAdd] at hx14_0); (try rw [show ((2 : Int)).toNat = 2 from rfl] at hf14_0); (try simp only [Nat.reduceMul, Nat.zero_mul, Nat.zero_add, Nat.reduceAdd] at hf14_0); replace p14 := eq_true p14; replace q14 := eq_true q14; obtain ⟨hy33_, hz33_⟩ := Kd.R_celln 0 HO364.out (2 : Int) (by omega) (of_decide_eq_true (by first | (with_reducible assumption) | assumption)); (try simp only [Int.reduceToNat, Int.toNat_zero, Int.toNat_ofNat, Nat.reduceMul, Nat.zero_mul, Nat.zero_add] at hy33_ hz33_); (try rw [show ((2 : Int)).toNat = 2 from rfl] at hy33_); (try rw [show ((2 : Int)).toNat = 2 from rfl] at hz33_); have HP33 := Kd.R_putg HO364.out (2 : Int) ((wrap64 (Int.tdiv t365 256)) % 256)) | ((with_reducible refine gate_store (t := 5) (p := 44) rfl ?_); refine store_event (t := 5) (p := 44) (v := ?vo_w34) (w1 := (w32.setCell ⟨go14, (2 : Int).toNat, none⟩ (.int .u8 ((wrap64 (Int.tdiv t365 256)) % 256)))) ?hg ?ho ?hn ?hr ?_; (case ho => rfl); (case hg => rfl); (case hn => rfl); (case hr => first | (go_simp; done) | (go_simp; rfl)); intro w34 hw; have hg : w32.grownBy w34 (some go14) := (by rw [hw]; exact HP33.2); have hp_ : Kd.R (Kd.int .u8) 5 w34 w.heap.size (fun k_ => some k_ ≠ (.slice Ao25 t350.length co25 : Value).ownBlock ∧ some k_ ≠ (.slice Ao29 t356.length co29 : Value).ownBlock) (.slice (some ⟨go14, 0, none⟩) y362.length co31) y366 := (by rw [hw, Ny366.out]; exact HP33.1); clear HP33; have n0_ := Aside0.mk (blk_grown (g := gb344) (o := .cells #[.bool a2_0, .int .i64 a2_1, .int .i64 a2_2, .slice A2_3 l2_3.length c2_3] 61 (0, 0)) (by (with_reducible repeat (first | refine blk_drewN ?_ _ | refine blk_drew ?_ | refine blk_alloc ?_ _)); exact BK344.out) hg (Kd.R_ne HO364.out BK344.out (by decide))); have n1_ := Aside0.mk (Kd.R_after (v := (.slice (some ⟨go14, 0, none⟩) y362.length co31)) (v1 := (.slice (some ⟨go14, 0, none⟩) y362.length co31)) (ok := (fun k_ => some k_ ≠ (.slice Ao29 t356.length co29 : Value).ownBlock)) (by (with_reducible repeat (first | apply Kd.R_alloc | apply Kd.R_drewN | apply Kd.R_drew)); (first | exact HO352.out | exact Kd.R_mono HO352.out (fun _ hk => ⟨trivial, hk⟩) | exact Kd.R_mono HO352.out (fun _ hk => by simp only [and_assoc] at hk ⊢; exact hk))) hg (.inl rfl)); have n2_ := Aside0.mk (Kd.R_after (v := (.slice (some ⟨go14, 0, none⟩) y362.length co31)) (v1 := (.slice (some ⟨go14, 0, none⟩) y362.length co31)) (ok := (fun k_ => some k_ ≠ (.slice Ao25 t350.length co25 : Value).ownBlock)) (by (with_reducible repeat (first | apply Kd.R_alloc | apply Kd.R_drewN | apply Kd.R_drew)); (first | exact HO358.out | exact Kd.R_mono HO358.out (fun _ hk => ⟨trivial, hk⟩) | exact Kd.R_mono HO358.out (fun _ hk => by simp only [and_assoc] at hk ⊢; exact hk))) hg (.inl rfl)); have n3_ := Aside0.mk (hp_); have n4_ := Aside0.mk ((by rw [hw]; exact below_set (HB.out) GB14.out : Below w.heap.size w w34)); clear BK344; clear HO352; clear HO358; clear HO364; clear HB; have BK344 := n0_; have HO352 := n1_; have HO358 := n2_; have HO364 := n3_; have HB := n4_; clear n0_ n1_ n2_ n3_ n4_; clear hg hw hp_; have p16 : 0 ≤ (3 : Int) := (by omega); have q16 : (3 : Int) < ((y362.length : Int) : Int) := of_decide_eq_true (by first | (with_reducible assumption) | assumption); have qi16 : (3 < y362.length) = True := eq_true (by omega); obtain ⟨hx16_0, hf16_0⟩ := Kd.R_celln 0 HO364.out (3 : Int) p16 q16; (try rw [show ((3 : Int)).toNat = 3 from rfl] at hx16_0); (try simp only [Nat.reduceMul, Nat.zero_mul, Nat.zero_add, Nat.reduceAdd] at hx16_0); (try rw [show ((3 : Int)).toNat = 3 from rfl] at hf16_0); (try simp only [Nat.reduceMul, Nat.zero_mul, Nat.zero_add, Nat.reduceAdd] at hf16_0); replace p16 := eq_true p16; replace q16 := eq_true q16; obtain ⟨hy35_, hz35_⟩ := Kd.R_celln 0 HO364.out (3 : Int) (by omega) (of_decide_eq_true (by first | (with_reducible assumption) | assumption)); (try simp only [Int.reduceToNat, Int.toNat_zero, Int.toNat_ofNat, Nat.reduceMul, Nat.zero_mul, Nat.zero_add] at hy35_ hz35_); (try rw [show ((3 : Int)).toNat = 3 from rfl] at hy35_); (try rw [show ((3 : Int)).toNat = 3 from rfl] at hz35_); have HP35 := Kd.R_putg HO364.out (3 : Int) ((Int.tmod t365 256) % 256)) | ((with_reducible refine gate_store (t := 5) (p := 49) rfl ?_); refine store_event (t := 5) (p := 49) (v := ?vo_w36) (w1 := (w34.setCell ⟨go14, (3 : Int).toNat, none⟩ (.int .u8 ((Int.tmod t365 256) % 256)))) ?hg ?ho ?hn ?hr ?_; (case ho => rfl); (case hg => rfl); (case hn => rfl); (case hr => first | (go_simp; done) | (go_simp; rfl)); intro w36 hw; have hg : w34.grownBy w36 (some go14) := (by rw [hw]; exact HP35.2); have hp_ : Kd.R (Kd.int .u8) 5 w36 w.heap.size (fun k_ => some k_ ≠ (.slice Ao25 t350.length co25 : Value).ownBlock ∧ some k_ ≠ (.slice Ao29 t356.length co29 : Value).ownBlock) (.slice (some ⟨go14, 0, none⟩) y362.length co31) y367 := (by rw [hw, Ny367.out]; exact HP35.1); clear HP35; have n0_ := Aside0.mk (blk_grown (g := gb344) (o := .cells #[.bool a2_0, .int .i64 a2_1, .int .i64 a2_2, .slice A2_3 l2_3.length c2_3] 61 (0, 0)) (by (with_reducible repeat (first | refine blk_drewN ?_ _ | refine blk_drew ?_ | refine blk_alloc ?_ _)); exact BK344.out) hg (Kd.R_ne HO364.out BK344.out (by decide))); have n1_ := Aside0.mk (Kd.R_after (v := (.slice (some ⟨go14, 0, none⟩) y362.length co31)) (v1 := (.slice (some ⟨go14, 0, none⟩) y362.length co31)) (ok := (fun k_ => some k_ ≠ (.slice Ao29 t356.length co29 : Value).ownBlock)) (by (with_reducible repeat (first | apply Kd.R_alloc | apply Kd.R_drewN | apply Kd.R_drew)); (first | exact HO352.out | exact Kd.R_mono HO352.out (fun _ hk => ⟨trivial, hk⟩) | exact Kd.R_mono HO352.out (fun _ hk => by simp only [and_assoc] at hk ⊢; exact hk))) hg (.inl rfl)); have n2_ := Aside0.mk (Kd.R_after (v := (.slice (some ⟨go14, 0, none⟩) y362.length co31)) (v1 := (.slice (some ⟨go14, 0, none⟩) y362.length co31)) (ok := (fun k_ => some k_ ≠ (.slice Ao25 t350.length co25 : Value).ownBlock)) (by (with_reducible repeat (first | apply Kd.R_alloc | apply Kd.R_drewN | apply Kd.R_drew)); (first | exact HO358.out | exact Kd.R_mono HO358.out (fun _ hk => ⟨trivial, hk⟩) | exact Kd.R_mono HO358.out (fun _ hk => by simp only [and_assoc] at hk ⊢; exact hk))) hg (.inl rfl)); have n3_ := Aside0.mk (hp_); have n4_ := Aside0.mk ((by rw [hw]; exact below_set (HB.out) GB14.out : Below w.heap.size w w36)); clear BK344; clear HO352; clear HO358; clear HO364; clear HB; have BK344 := n0_; have HO352 := n1_; have HO358 := n2_; have HO364 := n3_; have HB := n4_; clear n0_ n1_ n2_ n3_ n4_; clear hg hw hp_))
              go_ret
              exact ⟨_, by first | rfl | (simp [errW_none, errW_some] <;> rfl) | (simp [*, errW_none, errW_some] <;> rfl), by (with_reducible repeat (first | apply Kd.R_alloc | apply Kd.R_drewN | apply Kd.R_drew)); exact Kd.R_mono HO364.out (fun _ hk => trivial), by repeat (first | (with_reducible first | exact HB.out | apply below_alloc | apply pw_below_drewN | apply below_drew1 | refine below_set ?_ GE344.out) | exact HB.out)⟩
            · rw [if_neg c15] at H
              exact absurd H (by simp)
          · rw [if_neg c13] at H
            exact absurd H (by simp)
        · rw [if_neg c11] at H
          exact absurd H (by simp)
      · rw [if_neg c10] at H
        exact absurd H (by simp)
    · rw [if_neg c8] at H
      exact absurd H (by simp)
  · rw [if_neg c5] at H
    have c5b0 : ((a0.size : Int) == 16) = false := beq_eq_false_iff_ne.mpr c5
    have c5b1 : ((a0.size : Int) != 16) = true := bne_iff_ne.mpr c5
    obtain ⟨y368, hy368⟩ : ∃ y_ : List Int, y_ = (([(wrap64 (8 - t345)) % 256, 0, 0, 0] : List Int)) := ⟨_, rfl⟩
    replace H : ((spec_l01Two.f a2_1).bind fun t371 => (if y368.length + t371.length < 140737488355328 then ((some (y368 ++ t371 : List Int)).bind fun y374 => ((spec_l01Two.f a2_2).bind fun t377 => (if y374.length + t377.length < 140737488355328 then ((some (y374 ++ t377 : List Int)).bind fun y380 => (if y380.length + l2_3.length < 140737488355328 then ((some (y380 ++ l2_3 : List Int)).bind fun y383 => ((spec_l09EchoSum.f k a0 a1 y383).bind fun t386 => (if 2 < (y383.length : Int) then (if 3 < (y383.length : Int) then (some ((y383.set (2 : Int).toNat ((wrap64 (Int.tdiv t386 256)) % 256)).set (3 : Int).toNat ((Int.tmod t386 256) % 256))) else (none)) else (none)))) else (none))) else (none)))) else (none))) = some r := by first | (rw [hy368]; with_reducible exact H) | (have H2_ := (Option.bind_some _ _).symm.trans H; rw [hy368]; with_reducible exact H2_) | (have H2_ := (Option.bind_some _ _).symm.trans H; with_reducible exact H2_) | with_reducible exact H | (rw [hy368]; exact H) | exact H
    have Ny368 := Aside0.mk hy368
    clear hy368
    replace H := Option.bind_eq_some_iff.mp H
    obtain ⟨t371, A370, H⟩ := H
    replace H : (if y368.length + t371.length < 140737488355328 then ((some (y368 ++ t371 : List Int)).bind fun y374 => ((spec_l01Two.f a2_2).bind fun t377 => (if y374.length + t377.length < 140737488355328 then ((some (y374 ++ t377 : List Int)).bind fun y380 => (if y380.length + l2_3.length < 140737488355328 then ((some (y380 ++ l2_3 : List Int)).bind fun y383 => ((spec_l09EchoSum.f k a0 a1 y383).bind fun t386 => (if 2 < (y383.length : Int) then (if 3 < (y383.length : Int) then (some ((y383.set (2 : Int).toNat ((wrap64 (Int.tdiv t386 256)) % 256)).set (3 : Int).toNat ((Int.tmod t386 256) % 256))) else (none)) else (none)))) else (none))) else (none)))) else (none)) = some r := H
    have A37 := Aside0.mk A370
    clear A370
    by_cases c38 : y368.length + t371.length < 140737488355328
    · rw [if_pos c38] at H
      have LMc38 := Aside0.mk c38
      clear c38
      obtain ⟨y374, hy374⟩ : ∃ y_ : List Int, y_ = (y368 ++ t371) := ⟨_, rfl⟩
      replace H : ((spec_l01Two.f a2_2).bind fun t377 => (if y374.length + t377.length < 140737488355328 then ((some (y374 ++ t377 : List Int)).bind fun y380 => (if y380.length + l2_3.length < 140737488355328 then ((some (y380 ++ l2_3 : List Int)).bind fun y383 => ((spec_l09EchoSum.f k a0 a1 y383).bind fun t386 => (if 2 < (y383.length : Int) then (if 3 < (y383.length : Int) then (some ((y383.set (2 : Int).toNat ((wrap64 (Int.tdiv t386 256)) % 256)).set (3 : Int).toNat ((Int.tmod t386 256) % 256))) else (none)) else (none)))) else (none))) else (none))) = some r := by first | (rw [hy374]; with_reducible exact H) | (have H2_ := (Option.bind_some _ _).symm.trans H; rw [hy374]; with_reducible exact H2_) | (have H2_ := (Option.bind_some _ _).symm.trans H; with_reducible exact H2_) | with_reducible exact H | (rw [hy374]; exact H) | exact H
      have Ny374 := Aside0.mk hy374
      clear hy374
      replace H := Option.bind_eq_some_iff.mp H
      obtain ⟨t377, A390, H⟩ := H
      replace H : (if y374.length + t377.length < 140737488355328 then ((some (y374 ++ t377 : List Int)).bind fun y380 => (if y380.length + l2_3.length < 140737488355328 then ((some (y380 ++ l2_3 : List Int)).bind fun y383 => ((spec_l09EchoSum.f k a0 a1 y383).bind fun t386 => (if 2 < (y383.length : Int) then (if 3 < (y383.length : Int) then (some ((y383.set (2 : Int).toNat ((wrap64 (Int.tdiv t386 256)) % 256)).set (3 : Int).toNat ((Int.tmod t386 256) % 256))) else (none)) else (none)))) else (none))) else (none)) = some r := H
      have A39 := Aside0.mk A390
      clear A390
      by_cases c40 : y374.length + t377.length < 140737488355328
      · rw [if_pos c40] at H
        have LMc40 := Aside0.mk c40
        clear c40
        obtain ⟨y380, hy380⟩ : ∃ y_ : List Int, y_ = (y374 ++ t377) := ⟨_, rfl⟩
        replace H : (if y380.length + l2_3.length < 140737488355328 then ((some (y380 ++ l2_3 : List Int)).bind fun y383 => ((spec_l09EchoSum.f k a0 a1 y383).bind fun t386 => (if 2 < (y383.length : Int) then (if 3 < (y383.length : Int) then (some ((y383.set (2 : Int).toNat ((wrap64 (Int.tdiv t386 256)) % 256)).set (3 : Int).toNat ((Int.tmod t386 256) % 256))) else (none)) else (none)))) else (none)) = some r := by first | (rw [hy380]; with_reducible exact H) | (have H2_ := (Option.bind_some _ _).symm.trans H; rw [hy380]; with_reducible exact H2_) | (have H2_ := (Option.bind_some _ _).symm.trans H; with_reducible exact H2_) | with_reducible exact H | (rw [hy380]; exact H) | exact H
        have Ny380 := Aside0.mk hy380
        clear hy380
        by_cases c41 : y380.length + l2_3.length < 140737488355328
        · rw [if_pos c41] at H
          have LMc41 := Aside0.mk c41
          clear c41
          obtain ⟨y383, hy383⟩ : ∃ y_ : List Int, y_ = (y380 ++ l2_3) := ⟨_, rfl⟩
          replace H : ((spec_l09EchoSum.f k a0 a1 y383).bind fun t386 => (if 2 < (y383.length : Int) then (if 3 < (y383.length : Int) then (some ((y383.set (2 : Int).toNat ((wrap64 (Int.tdiv t386 256)) % 256)).set (3 : Int).toNat ((Int.tmod t386 256) % 256))) else (none)) else (none))) = some r := by first | (rw [hy383]; with_reducible exact H) | (have H2_ := (Option.bind_some _ _).symm.trans H; rw [hy383]; with_reducible exact H2_) | (have H2_ := (Option.bind_some _ _).symm.trans H; with_reducible exact H2_) | with_reducible exact H | (rw [hy383]; exact H) | exact H
          have Ny383 := Aside0.mk hy383
          clear hy383
          replace H := Option.bind_eq_some_iff.mp H
          obtain ⟨t386, A420, H⟩ := H
          replace H : (if 2 < (y383.length : Int) then (if 3 < (y383.length : Int) then (some ((y383.set (2 : Int).toNat ((wrap64 (Int.tdiv t386 256)) % 256)).set (3 : Int).toNat ((Int.tmod t386 256) % 256))) else (none)) else (none)) = some r := H
          have A42 := Aside0.mk A420
          clear A420
          by_cases c43 : 2 < (y383.length : Int)
          · rw [if_pos c43] at H
            have c43b0 : decide (2 < (y383.length : Int)) = true := decide_eq_true c43
            have c43b1 : decide (2 < y383.length) = true := decide_eq_true (by omega)
            clear c43
            obtain ⟨y387, hy387⟩ : ∃ y_ : List Int, y_ = (y383.set (2 : Int).toNat ((wrap64 (Int.tdiv t386 256)) % 256)) := ⟨_, rfl⟩
            replace H : (if 3 < (y383.length : Int) then (some (y387.set (3 : Int).toNat ((Int.tmod t386 256) % 256))) else (none)) = some r := by first | (rw [hy387]; with_reducible exact H) | (have H2_ := (Option.bind_some _ _).symm.trans H; rw [hy387]; with_reducible exact H2_) | (have H2_ := (Option.bind_some _ _).symm.trans H; with_reducible exact H2_) | with_reducible exact H | (rw [hy387]; exact H) | exact H
            have Ny387 := Aside0.mk hy387
            clear hy387
            by_cases c45 : 3 < (y383.length : Int)
            · rw [if_pos c45] at H
              have c45b0 : decide (3 < (y383.length : Int)) = true := decide_eq_true c45
              have c45b1 : decide (3 < y383.length) = true := decide_eq_true (by omega)
              clear c45
              obtain ⟨y388, hy388⟩ : ∃ y_ : List Int, y_ = (y387.set (3 : Int).toNat ((Int.tmod t386 256) % 256)) := ⟨_, rfl⟩
              replace H : (some y388) = some r := by first | (rw [hy388]; with_reducible exact H) | (have H2_ := (Option.bind_some _ _).symm.trans H; rw [hy388]; with_reducible exact H2_) | (have H2_ := (Option.bind_some _ _).symm.trans H; with_reducible exact H2_) | with_reducible exact H | (rw [hy388]; exact H) | exact H
              have Ny388 := Aside0.mk hy388
              clear hy388
              obtain rfl := Option.some.inj H
              go_enter Try.func106, Try.ntmps106
              try go_wp2_with (first | ((with_reducible refine gate_dst (N := 5) rfl ?_); refine box_event ?hg (N := 5) ?hd (cs := #[.bool a2_0, .int .i64 a2_1, .int .i64 a2_2, .slice A2_3 l2_3.length c2_3]) (t := 61) ?hr ?_; (case hd => rfl); (case hg => rfl); (case hr => first | (go_simp; done) | (go_simp; rfl)); intro gb344 hg w47 hbox hb; have n0_ := Aside0.mk (below_step (by repeat (first | (with_reducible first | exact HB.out | apply below_alloc | apply pw_below_drewN | apply below_drew1) | exact HB.out)) hb); have n1_ := Aside0.mk (hbox); have n2_ := Aside0.mk ((by rw [hg]; exact (below_size (by repeat (first | (with_reducible first | exact HB.out | apply below_alloc | apply pw_below_drewN | apply below_drew1) | exact HB.out))) : w.heap.size ≤ gb344)); have n3_ := Aside0.mk ((by rw [hg]; exact (below_size (by repeat (first | (with_reducible first | exact HB.out | apply below_alloc | apply pw_below_drewN | apply below_drew1) | exact HB.out))) : w.heap.size ≤ gb344)); clear HB; have HB := n0_; have BK344 := n1_; have GW344 := n2_; have GE344 := n3_; clear n0_ n1_ n2_ n3_; clear hb hbox hg; have hcz48_0 : w47.cell? ⟨gb344, 0, none⟩ = some (.bool a2_0) := (blk_cell BK344.out 0).trans rfl; have hcz48_1 : w47.cell? ⟨gb344, 1, none⟩ = some (.int .i64 a2_1) := (blk_cell BK344.out 1).trans rfl; have hcz48_2 : w47.cell? ⟨gb344, 2, none⟩ = some (.int .i64 a2_2) := (blk_cell BK344.out 2).trans rfl; have hcz48_3 : w47.cell? ⟨gb344, 3, none⟩ = some (.slice A2_3 l2_3.length c2_3) := (blk_cell BK344.out 3).trans rfl; have hfz48_0 := blk_frozen BK344.out 0; have hfz48_1 := blk_frozen BK344.out 1; have hfz48_2 := blk_frozen BK344.out 2; have hfz48_3 := blk_frozen BK344.out 3) | ((with_reducible refine gate_callee (f := 130) rfl ?_); refine goesL_ (some 12) rfl rfl Try.func130 (by kernel_rfl) rfl #[.bool a2_0, .int .i64 8] rfl (by (try simp only [List.map_toArray, List.map_cons, List.map_nil]); first | done | rfl | (simp only [List.length_drop, List.length_take]; rfl)) ?_; (with_reducible refine (spec_l01Bit.calls a2_0 8 t345 _ A4.out).mono ?_); rintro e w' ⟨rfl, ⟨nd, rfl⟩⟩; refine ⟨_, rfl, ?_⟩; (try (rw [drewN_self w47]; generalize hq_ : World.drewN w47 _ = w47; have n0_ : Aside0 (w47.heap[gb344]? = some (.cells #[.bool a2_0, .int .i64 a2_1, .int .i64 a2_2, .slice A2_3 l2_3.length c2_3] 61 (0, 0))) := ⟨by rw [← hq_]; exact (by (with_reducible repeat (first | refine blk_drewN ?_ _ | refine blk_drew ?_ | refine blk_alloc ?_ _)); exact BK344.out)⟩; have n1_ : Aside0 (Below w.heap.size w w47) := ⟨by rw [← hq_]; exact (by repeat (first | (with_reducible first | exact HB.out | apply below_alloc | apply pw_below_drewN | apply below_drew1 | refine below_set ?_ GE344.out) | exact HB.out))⟩; clear BK344 HB hq_; have BK344 := n0_; have HB := n1_; clear n0_ n1_))) | ((with_reducible refine gate_dst (N := 23) rfl ?_); refine Kd.R_lit (Kd.int .u8) _ 5 ?hg (N := 23) ?hd (xs := ([(wrap64 (8 - t345)) % 256, 0, 0, 0] : List Int)) (inner := [.int .u8 ((wrap64 (8 - t345)) % 256), .int .u8 0, .int .u8 0, .int .u8 0]) (ok := fun _ => True) (okp := fun _ => True) ?hr ?hp (fun _ hk => hk) trivial (Below.refl _ _) (Nat.le_refl _) (by simp) ?_; (case hd => rfl); (case hg => rfl); (case hr => first | (go_simp; done) | (go_simp; rfl)); (case hp => exact (Reps.one (show Kd.M (Kd.int .u8) _ _ _ ((wrap64 (8 - t345)) % 256) [.int .u8 ((wrap64 (8 - t345)) % 256)] from rfl) (Reps.one (show Kd.M (Kd.int .u8) _ _ _ 0 [.int .u8 0] from rfl) (Reps.one (show Kd.M (Kd.int .u8) _ _ _ 0 [.int .u8 0] from rfl) (Reps.one (show Kd.M (Kd.int .u8) _ _ _ 0 [.int .u8 0] from rfl) (Reps.none _ _)))))); intro v369 w49 ho50 hb hg_ hnew_; clear hg_ hnew_; (first | rw [← Ny368.out] at ho50 | (simp only [Int.reduceToNat] at ho50; rw [← Ny368.out] at ho50)); have n0_ := Aside0.mk (Kd.R_lower ho50 (below_size (by repeat (first | (with_reducible first | exact HB.out | apply below_alloc | apply pw_below_drewN | apply below_drew1 | refine below_set ?_ GE344.out) | exact HB.out)))); have n1_ := Aside0.mk (blk_below (g := gb344) (o := .cells #[.bool a2_0, .int .i64 a2_1, .int .i64 a2_2, .slice A2_3 l2_3.length c2_3] 61 (0, 0)) (by (with_reducible repeat (first | refine blk_drewN ?_ _ | refine blk_drew ?_ | refine blk_alloc ?_ _)); exact BK344.out) hb); have n2_ := Aside0.mk (below_step (by repeat (first | (with_reducible first | exact HB.out | apply below_alloc | apply pw_below_drewN | apply below_drew1 | refine below_set ?_ GE344.out) | exact HB.out)) hb); clear BK344; clear HB; have HO370 := n0_; have BK344 := n1_; have HB := n2_; clear n0_ n1_ n2_; clear hb ho50; have hcz51_0 : w49.cell? ⟨gb344, 0, none⟩ = some (.bool a2_0) := (blk_cell BK344.out 0).trans rfl; have hcz51_1 : w49.cell? ⟨gb344, 1, none⟩ = some (.int .i64 a2_1) := (blk_cell BK344.out 1).trans rfl; have hcz51_2 : w49.cell? ⟨gb344, 2, none⟩ = some (.int .i64 a2_2) := (blk_cell BK344.out 2).trans rfl; have hcz51_3 : w49.cell? ⟨gb344, 3, none⟩ = some (.slice A2_3 l2_3.length c2_3) := (blk_cell BK344.out 3).trans rfl; have hfz51_0 := blk_frozen BK344.out 0; have hfz51_1 := blk_frozen BK344.out 1; have hfz51_2 := blk_frozen BK344.out 2; have hfz51_3 := blk_frozen BK344.out 3) | ((with_reducible refine gate_callee (f := 132) rfl ?_); refine goesL_ (some 26) rfl rfl Try.func132 (by kernel_rfl) rfl #[.int .i64 a2_1] rfl (by (try simp only [List.map_toArray, List.map_cons, List.map_nil]); first | done | rfl | (simp only [List.length_drop, List.length_take]; rfl)) ?_; (with_reducible refine (spec_l01Two.calls a2_1 t371 _ A37.out).mono ?_); rintro e w52 ⟨v372, rfl, ho0, hb⟩; refine ⟨_, rfl, ?_⟩; have n0_ := Aside0.mk (Kd.R_elder' (by (with_reducible repeat (first | apply Kd.R_alloc | apply Kd.R_drewN | apply Kd.R_drew)); exact HO370.out) (Kd.R_base ho0) hb); have n1_ := Aside0.mk (Kd.R_lower (Kd.R_new' ho0 (Kd.R_lt (by (with_reducible repeat (first | apply Kd.R_alloc | apply Kd.R_drewN | apply Kd.R_drew)); exact HO370.out))) (below_size (by repeat (first | (with_reducible first | exact HB.out | apply below_alloc | apply pw_below_drewN | apply below_drew1 | refine below_set ?_ GE344.out) | exact HB.out)))); have n2_ := Aside0.mk (blk_below (g := gb344) (o := .cells #[.bool a2_0, .int .i64 a2_1, .int .i64 a2_2, .slice A2_3 l2_3.length c2_3] 61 (0, 0)) (by (with_reducible repeat (first | refine blk_drewN ?_ _ | refine blk_drew ?_ | refine blk_alloc ?_ _)); exact BK344.out) hb); have n3_ := Aside0.mk (below_step (by repeat (first | (with_reducible first | exact HB.out | apply below_alloc | apply pw_below_drewN | apply below_drew1 | refine below_set ?_ GE344.out) | exact HB.out)) hb); clear HO370; clear BK344; clear HB; have HO370 := n0_; have HO373 := n1_; have BK344 := n2_; have HB := n3_; clear n0_ n1_ n2_ n3_; (try clear hb); (try clear hb2); (try clear hk); (try clear hi); (try clear ho0); obtain ⟨Ao54, co54, eo54⟩ := Kd.R_slice HO373.out; subst eo54) | ((with_reducible refine gate_builtin (b := .append) (xs := #[.tmp 23, .tmp 26]) rfl ?_); at_builtin; refine Kd.R_append_rows (Kd.int .u8) (w0 := w) w.heap.size rfl (.tmp 23) (.tmp 26) 25 5 (.int .u8 0) 1 rfl Try.underlying25 info5 rfl (by decide) (by omega) v369 y368 t371 _ _ _ (fun k_ => some k_ ≠ (.slice Ao54 t371.length co54 : Value).ownBlock) (fun _ => False) rfl rfl ?aO ?aR (fun _ _ h => h) (fun _ h => h.elim) ?aF ?aB ?aS ?aL ?_; (case aR => repeat (first | exact (Kd.R_reads' HO373.out).2.2 | (with_reducible refine Kd.C_alloc ?_ _) | (with_reducible refine Kd.C_drewN ?_ _) | (with_reducible refine Kd.C_drew ?_))); (case aB => exact (by repeat (first | (with_reducible first | exact HB.out | apply below_alloc | apply pw_below_drewN | apply below_drew1 | refine below_set ?_ GE344.out) | exact HB.out))); (case aF => exact (fun k_ hk => Kd.fresh' (Kd.R_lt (by (with_reducible repeat (first | apply Kd.R_alloc | apply Kd.R_drewN | apply Kd.R_drew)); exact HO373.out)) k_ hk)); (case aO => exact (by (with_reducible repeat (first | apply Kd.R_alloc | apply Kd.R_drewN | apply Kd.R_drew)); (first | exact Kd.R_mono HO370.out (fun _ hk => hk.2) | exact HO370.out))); (case aS => exact (below_size (by repeat (first | (with_reducible first | exact HB.out | apply below_alloc | apply pw_below_drewN | apply below_drew1 | refine below_set ?_ GE344.out) | exact HB.out)))); (case aL => have := LMc38.out; omega); intro v375 w53 ho hb hg hat; rw [← Ny374.out] at ho; have n0_ := Aside0.mk (blk_grown (g := gb344) (o := .cells #[.bool a2_0, .int .i64 a2_1, .int .i64 a2_2, .slice A2_3 l2_3.length c2_3] 61 (0, 0)) (by (with_reducible repeat (first | refine blk_drewN ?_ _ | refine blk_drew ?_ | refine blk_alloc ?_ _)); exact BK344.out) hg (Kd.R_ne HO370.out BK344.out (by decide))); have n1_ := Aside0.mk (Kd.R_after (ok := (fun _ => True)) (by (with_reducible repeat (first | apply Kd.R_alloc | apply Kd.R_drewN | apply Kd.R_drew)); (first | exact HO373.out | exact Kd.R_mono HO373.out (fun _ hk => ⟨trivial, hk⟩) | exact Kd.R_mono HO373.out (fun _ hk => by simp only [and_assoc] at hk ⊢; exact hk))) hg hat); have n2_ := Aside0.mk (hb); have n3_ := Aside0.mk (ho); clear BK344; clear HO373; clear HB; clear HO370; have BK344 := n0_; have HO373 := n1_; have HB := n2_; have HO376 := n3_; clear n0_ n1_ n2_ n3_; clear ho hb hg hat))
              have n0_ := Aside0.mk (Kd.R_drew HO373.out)
              have n1_ := Aside0.mk (Kd.R_drew HO376.out)
              have n2_ := Aside0.mk (blk_drew BK344.out)
              have n3_ := Aside0.mk (below_drew1 HB.out)
              clear HO373
              clear HO376
              clear BK344
              clear HB
              have HO373 := n0_
              have HO376 := n1_
              have BK344 := n2_
              have HB := n3_
              clear n0_ n1_ n2_ n3_
              refine start_ (n := 9) (S := fun w' => w'.cell? ⟨gb344, 0, none⟩ = some (.bool a2_0) ∧ w'.cell? ⟨gb344, 1, none⟩ = some (.int .i64 a2_1) ∧ w'.cell? ⟨gb344, 2, none⟩ = some (.int .i64 a2_2) ∧ w'.cell? ⟨gb344, 3, none⟩ = some (.slice A2_3 l2_3.length c2_3)) (ds := []) #[false, false, false, false, false, false, false, false, false] (by kernel_rfl) rfl rfl ⟨(blk_cell BK344.out 0).trans rfl, (blk_cell BK344.out 1).trans rfl, (blk_cell BK344.out 2).trans rfl, (blk_cell BK344.out 3).trans rfl⟩ (fun hHeld => ?_); refine with_tabW spec_l09EchoBytes.tab5 spec_l09EchoBytes.bits5 (fun HT_ HW_ => ?_)
              generalize w53.drew = w55 at HO373 HO376 BK344 HB hHeld ⊢
              refine pure_ (i := 0) (N := some 28) (v := ?_) (a' := ?_) #[true, false, false, false, false, false, false, false, false] rfl rfl (any_of HT_.out (by kernel_rfl)) (fun _ _ _ h => h) (Or.inl ⟨by rfl, ?_⟩) ?_ ?_
              rotate_left
              · intro w'
                go_simp
                with_reducible rfl
              rotate_left
              · simp only [Act.put, List.setIfInBounds_toArray, List.set_cons_zero, List.set_cons_succ, i64_w, i32_w]
                rfl
              refine pure_ (i := 1) (N := some 29) (v := ?_) (a' := ?_) #[true, true, false, false, false, false, false, false, false] rfl rfl (any_of HT_.out (by kernel_rfl)) (fun _ _ _ h => h) (Or.inl ⟨by rfl, ?_⟩) ?_ ?_
              rotate_left
              · intro w'
                go_simp
                with_reducible rfl
              rotate_left
              · simp only [Act.put, List.setIfInBounds_toArray, List.set_cons_zero, List.set_cons_succ, i64_w, i32_w]
                rfl
              refine pure_ (i := 5) (N := some 33) (v := ?_) (a' := ?_) #[true, true, false, false, false, true, false, false, false] rfl rfl (any_of HT_.out (by kernel_rfl)) (fun _ _ _ h => h) (Or.inl ⟨by rfl, ?_⟩) ?_ ?_
              rotate_left
              · intro w'
                go_simp
                with_reducible rfl
              rotate_left
              · simp only [Act.put, List.setIfInBounds_toArray, List.set_cons_zero, List.set_cons_succ, i64_w, i32_w]
                rfl
              refine take_ (i := 2) (N := some 30) (v := ?_) (a' := ?_) #[true, true, true, false, false, true, false, false, false] rfl rfl (take_ofW HT_.out HW_.out (by kernel_rfl)) (fun _ _ _ h => h) (Or.inl ⟨by rfl, ?_⟩) hHeld ?_ ?_
              rotate_left
              · rintro w' ⟨s0, s1, s2, s3⟩
                go_simp
                with_reducible rfl
              rotate_left
              · simp only [Act.put, List.setIfInBounds_toArray, List.set_cons_zero, List.set_cons_succ, i64_w, i32_w]
                rfl
              refine take_ (i := 6) (N := some 34) (v := ?_) (a' := ?_) #[true, true, true, false, false, true, true, false, false] rfl rfl (take_ofW HT_.out HW_.out (by kernel_rfl)) (fun _ _ _ h => h) (Or.inl ⟨by rfl, ?_⟩) hHeld ?_ ?_
              rotate_left
              · rintro w' ⟨s0, s1, s2, s3⟩
                go_simp
                with_reducible rfl
              rotate_left
              · simp only [Act.put, List.setIfInBounds_toArray, List.set_cons_zero, List.set_cons_succ, i64_w, i32_w]
                rfl
              refine one_ (i := 3) (N := some 31) #[true, true, true, true, false, true, true, false, false] rfl rfl (one_of HT_.out (by kernel_rfl)) (by decide) (fun K hK => ?_)
              refine goes_ Try.func132 (by kernel_rfl) rfl #[.int .i64 a2_2] (by rfl) rfl rfl (by (try simp only [List.map_toArray, List.map_cons, List.map_nil]); first | done | rfl | (simp only [List.length_drop, List.length_take]; rfl)) ?_
              with_reducible refine (spec_l01Two.calls a2_2 t377 _ A39.out).mono ?_
              rintro e w56 ⟨v378, rfl, ho0, hb⟩
              refine ⟨_, rfl, ?_⟩
              have n0_ := Aside0.mk (Kd.R_elder' (by (with_reducible repeat (first | apply Kd.R_alloc | apply Kd.R_drewN | apply Kd.R_drew)); exact HO373.out) (Kd.R_base ho0) hb)
              have n1_ := Aside0.mk (Kd.R_elder' (by (with_reducible repeat (first | apply Kd.R_alloc | apply Kd.R_drewN | apply Kd.R_drew)); exact HO376.out) (Kd.R_base ho0) hb)
              have n2_ := Aside0.mk (Kd.R_lower (Kd.R_new' (Kd.R_new' ho0 (Kd.R_lt (by (with_reducible repeat (first | apply Kd.R_alloc | apply Kd.R_drewN | apply Kd.R_drew)); exact HO373.out))) (Kd.R_lt (by (with_reducible repeat (first | apply Kd.R_alloc | apply Kd.R_drewN | apply Kd.R_drew)); exact HO376.out))) (below_size (by repeat (first | (with_reducible first | exact HB.out | apply below_alloc | apply pw_below_drewN | apply below_drew1 | refine below_set ?_ GE344.out) | exact HB.out))))
              have n3_ := Aside0.mk (blk_below (g := gb344) (o := .cells #[.bool a2_0, .int .i64 a2_1, .int .i64 a2_2, .slice A2_3 l2_3.length c2_3] 61 (0, 0)) (by (with_reducible repeat (first | refine blk_drewN ?_ _ | refine blk_drew ?_ | refine blk_alloc ?_ _)); exact BK344.out) hb)
              have n4_ := Aside0.mk (below_step (by repeat (first | (with_reducible first | exact HB.out | apply below_alloc | apply pw_below_drewN | apply below_drew1 | refine below_set ?_ GE344.out) | exact HB.out)) hb)
              clear HO373
              clear HO376
              clear BK344
              clear HB
              have HO373 := n0_
              have HO376 := n1_
              have HO379 := n2_
              have BK344 := n3_
              have HB := n4_
              clear n0_ n1_ n2_ n3_ n4_
              (try clear hb)
              (try clear hb2)
              (try clear hk)
              (try clear hi)
              (try clear ho0)
              obtain ⟨Ao58, co58, eo58⟩ := Kd.R_slice HO379.out
              (first | subst eo58 | (injection eo58 with f1_ f2_ f3_; have f4_ := f1_.symm; have f5_ := f3_.symm; clear f1_ f2_ f3_; subst f4_; subst f5_))
              refine hK.out _ _ ⟨(blk_cell BK344.out 0).trans rfl, (blk_cell BK344.out 1).trans rfl, (blk_cell BK344.out 2).trans rfl, (blk_cell BK344.out 3).trans rfl⟩ (fun hHeld => ?_)
              clear hK K
              refine norm_ (a' := ?_) ?_ ?_
              rotate_left
              · show Act.put _ (some 31) _ = _
                simp only [Act.put, List.setIfInBounds_toArray, List.set_cons_zero, List.set_cons_succ, i64_w, i32_w]
                rfl
              refine one_ (i := 4) (N := some 32) #[true, true, true, true, true, true, true, false, false] rfl rfl (one_of HT_.out (by kernel_rfl)) (by decide) (fun K hK => ?_)
              refine Kd.R_append_rows_step (Kd.int .u8) (w0 := w) w.heap.size (by rfl) (.tmp 28) (.tmp 31) 25 5 (.int .u8 0) 1 rfl Try.underlying25 info5 rfl (by decide) (by omega) v375 y374 t377 _ _ _ (fun k_ => some k_ ≠ (.slice Ao54 t371.length co54 : Value).ownBlock ∧ some k_ ≠ (.slice Ao58 t377.length co58 : Value).ownBlock) (fun _ => False) rfl rfl ?aO ?aR (fun _ _ h => h) (fun _ h => h.elim) ?aF ?aB ?aS ?aL ?_
              (case aR => repeat (first | exact (Kd.R_reads' HO379.out).2.2 | (with_reducible refine Kd.C_alloc ?_ _) | (with_reducible refine Kd.C_drewN ?_ _) | (with_reducible refine Kd.C_drew ?_)))
              (case aB => exact (by repeat (first | (with_reducible first | exact HB.out | apply below_alloc | apply pw_below_drewN | apply below_drew1 | refine below_set ?_ GE344.out) | exact HB.out)))
              (case aF => exact (fun k_ hk => ⟨Kd.fresh' (Kd.R_lt (by (with_reducible repeat (first | apply Kd.R_alloc | apply Kd.R_drewN | apply Kd.R_drew)); exact HO373.out)) k_ hk, Kd.fresh' (Kd.R_lt (by (with_reducible repeat (first | apply Kd.R_alloc | apply Kd.R_drewN | apply Kd.R_drew)); exact HO379.out)) k_ hk⟩))
              (case aO => exact (by (with_reducible repeat (first | apply Kd.R_alloc | apply Kd.R_drewN | apply Kd.R_drew)); exact HO376.out))
              (case aS => exact (below_size (by repeat (first | (with_reducible first | exact HB.out | apply below_alloc | apply pw_below_drewN | apply below_drew1 | refine below_set ?_ GE344.out) | exact HB.out))))
              (case aL => have := LMc40.out; omega)
              intro v381 w57 ho hb hg hat
              rw [← Ny380.out] at ho
              have n0_ := Aside0.mk (blk_grown (g := gb344) (o := .cells #[.bool a2_0, .int .i64 a2_1, .int .i64 a2_2, .slice A2_3 l2_3.length c2_3] 61 (0, 0)) (by (with_reducible repeat (first | refine blk_drewN ?_ _ | refine blk_drew ?_ | refine blk_alloc ?_ _)); exact BK344.out) hg (Kd.R_ne HO376.out BK344.out (by decide)))
              have n1_ := Aside0.mk (Kd.R_after (ok := (fun k_ => some k_ ≠ (.slice Ao58 t377.length co58 : Value).ownBlock)) (by (with_reducible repeat (first | apply Kd.R_alloc | apply Kd.R_drewN | apply Kd.R_drew)); exact Kd.R_mono HO373.out (fun _ hk => ⟨hk.2, hk.1.2⟩)) hg hat)
              have n2_ := Aside0.mk (Kd.R_after (ok := (fun k_ => some k_ ≠ (.slice Ao54 t371.length co54 : Value).ownBlock)) (by (with_reducible repeat (first | apply Kd.R_alloc | apply Kd.R_drewN | apply Kd.R_drew)); exact Kd.R_mono HO379.out (fun _ hk => ⟨hk.1.2, hk.2⟩)) hg hat)
              have n3_ := Aside0.mk (hb)
              have n4_ := Aside0.mk (ho)
              clear BK344
              clear HO373
              clear HO379
              clear HB
              clear HO376
              have BK344 := n0_
              have HO373 := n1_
              have HO379 := n2_
              have HB := n3_
              have HO382 := n4_
              clear n0_ n1_ n2_ n3_ n4_
              clear ho hb hg hat
              refine hK.out _ _ ⟨(blk_cell BK344.out 0).trans rfl, (blk_cell BK344.out 1).trans rfl, (blk_cell BK344.out 2).trans rfl, (blk_cell BK344.out 3).trans rfl⟩ (fun hHeld => ?_)
              clear hK K
              refine norm_ (a' := ?_) ?_ ?_
              rotate_left
              · show Act.put _ (some 32) _ = _
                simp only [Act.put, List.setIfInBounds_toArray, List.set_cons_zero, List.set_cons_succ, i64_w, i32_w]
                rfl
              refine one_ (i := 7) (N := some 35) #[true, true, true, true, true, true, true, true, false] rfl rfl (one_of HT_.out (by kernel_rfl)) (by decide) (fun K hK => ?_)
              refine Kd.R_append_rows_step (Kd.int .u8) (w0 := w) w.heap.size (by rfl) (.tmp 32) (.tmp 34) 25 5 (.int .u8 0) 1 rfl Try.underlying25 info5 rfl (by decide) (by omega) v381 y380 l2_3 _ _ _ (fun k_ => some k_ ≠ (.slice Ao54 t371.length co54 : Value).ownBlock ∧ some k_ ≠ (.slice Ao58 t377.length co58 : Value).ownBlock) (fun _ => False) rfl rfl ?aO ?aR (fun _ _ h => h) (fun _ h => h.elim) ?aF ?aB ?aS ?aL ?_
              (case aR => repeat (first | exact (Kd.C_below HR2_3.out HB.out) | (with_reducible refine Kd.C_alloc ?_ _) | (with_reducible refine Kd.C_drewN ?_ _) | (with_reducible refine Kd.C_drew ?_)))
              (case aB => exact (by repeat (first | (with_reducible first | exact HB.out | apply below_alloc | apply pw_below_drewN | apply below_drew1 | refine below_set ?_ GE344.out) | exact HB.out)))
              (case aF => exact (fun k_ hk => ⟨Kd.fresh' (Kd.R_lt (by (with_reducible repeat (first | apply Kd.R_alloc | apply Kd.R_drewN | apply Kd.R_drew)); exact HO373.out)) k_ hk, Kd.fresh' (Kd.R_lt (by (with_reducible repeat (first | apply Kd.R_alloc | apply Kd.R_drewN | apply Kd.R_drew)); exact HO379.out)) k_ hk⟩))
              (case aO => exact (by (with_reducible repeat (first | apply Kd.R_alloc | apply Kd.R_drewN | apply Kd.R_drew)); exact HO382.out))
              (case aS => exact (below_size (by repeat (first | (with_reducible first | exact HB.out | apply below_alloc | apply pw_below_drewN | apply below_drew1 | refine below_set ?_ GE344.out) | exact HB.out))))
              (case aL => have := LMc41.out; omega)
              intro v384 w59 ho hb hg hat
              rw [← Ny383.out] at ho
              have n0_ := Aside0.mk (blk_grown (g := gb344) (o := .cells #[.bool a2_0, .int .i64 a2_1, .int .i64 a2_2, .slice A2_3 l2_3.length c2_3] 61 (0, 0)) (by (with_reducible repeat (first | refine blk_drewN ?_ _ | refine blk_drew ?_ | refine blk_alloc ?_ _)); exact BK344.out) hg (Kd.R_ne HO382.out BK344.out (by decide)))
              have n1_ := Aside0.mk (Kd.R_after (ok := (fun k_ => some k_ ≠ (.slice Ao58 t377.length co58 : Value).ownBlock)) (by (with_reducible repeat (first | apply Kd.R_alloc | apply Kd.R_drewN | apply Kd.R_drew)); (first | exact HO373.out | exact Kd.R_mono HO373.out (fun _ hk => ⟨trivial, hk⟩) | exact Kd.R_mono HO373.out (fun _ hk => by simp only [and_assoc] at hk ⊢; exact hk))) hg hat)
              have n2_ := Aside0.mk (Kd.R_after (ok := (fun k_ => some k_ ≠ (.slice Ao54 t371.length co54 : Value).ownBlock)) (by (with_reducible repeat (first | apply Kd.R_alloc | apply Kd.R_drewN | apply Kd.R_drew)); (first | exact HO379.out | exact Kd.R_mono HO379.out (fun _ hk => ⟨trivial, hk⟩) | exact Kd.R_mono HO379.out (fun _ hk => by simp only [and_assoc] at hk ⊢; exact hk))) hg hat)
              have n3_ := Aside0.mk (hb)
              have n4_ := Aside0.mk (ho)
              clear BK344
              clear HO373
              clear HO379
              clear HB
              clear HO382
              have BK344 := n0_
              have HO373 := n1_
              have HO379 := n2_
              have HB := n3_
              have HO385 := n4_
              clear n0_ n1_ n2_ n3_ n4_
              clear ho hb hg hat
              refine hK.out _ _ ⟨(blk_cell BK344.out 0).trans rfl, (blk_cell BK344.out 1).trans rfl, (blk_cell BK344.out 2).trans rfl, (blk_cell BK344.out 3).trans rfl⟩ (fun hHeld => ?_)
              clear hK K
              refine norm_ (a' := ?_) ?_ ?_
              rotate_left
              · show Act.put _ (some 35) _ = _
                simp only [Act.put, List.setIfInBounds_toArray, List.set_cons_zero, List.set_cons_succ, i64_w, i32_w]
                rfl
              refine pure_ (i := 8) (N := some 8) (v := ?_) (a' := ?_) #[true, true, true, true, true, true, true, true, true] rfl rfl (any_of HT_.out (by kernel_rfl)) (fun _ _ _ h => h) (Or.inl ⟨by rfl, ?_⟩) ?_ ?_
              rotate_left
              · intro w'
                go_simp
                with_reducible rfl
              rotate_left
              · simp only [Act.put, List.setIfInBounds_toArray, List.set_cons_zero, List.set_cons_succ, i64_w, i32_w]
                rfl
              refine done_ (done_of HT_.out (by kernel_rfl)) ?_
              obtain ⟨Ao60, co60, eo60⟩ := Kd.R_slice HO385.out
              subst eo60
              try go_wp2_with (first | ((with_reducible refine gate_callee (f := 139) rfl ?_); refine goesL_ (some 39) rfl rfl Try.func139 (by kernel_rfl) rfl #[.string a0, .string a1, .slice Ao60 y383.length co60] rfl (by (try simp only [List.map_toArray, List.map_cons, List.map_nil]); first | done | rfl | (simp only [List.length_drop, List.length_take]; rfl)) ?_; (with_reducible refine (spec_l09EchoSum.calls k a0 a1 _ _ y383 t386 _ ?side1 ?side2 A42.out).mono ?_); (case side1 => repeat (first | exact (Kd.R_reads' HO385.out).2.2 | (with_reducible refine Kd.C_alloc ?_ _) | (with_reducible refine Kd.C_drewN ?_ _) | (with_reducible refine Kd.C_drew ?_))); (case side2 => exact (Kd.R_reads' HO385.out).2.1); rintro e w61 ⟨rfl, hb⟩; refine ⟨_, rfl, ?_⟩; have n0_ := Aside0.mk (Kd.R_below (by (with_reducible repeat (first | apply Kd.R_alloc | apply Kd.R_drewN | apply Kd.R_drew)); exact HO373.out) hb); have n1_ := Aside0.mk (Kd.R_below (by (with_reducible repeat (first | apply Kd.R_alloc | apply Kd.R_drewN | apply Kd.R_drew)); exact HO379.out) hb); have n2_ := Aside0.mk (Kd.R_below (by (with_reducible repeat (first | apply Kd.R_alloc | apply Kd.R_drewN | apply Kd.R_drew)); exact HO385.out) hb); have n3_ := Aside0.mk (blk_below (g := gb344) (o := .cells #[.bool a2_0, .int .i64 a2_1, .int .i64 a2_2, .slice A2_3 l2_3.length c2_3] 61 (0, 0)) (by (with_reducible repeat (first | refine blk_drewN ?_ _ | refine blk_drew ?_ | refine blk_alloc ?_ _)); exact BK344.out) hb); have n4_ := Aside0.mk (below_step (by repeat (first | (with_reducible first | exact HB.out | apply below_alloc | apply pw_below_drewN | apply below_drew1 | refine below_set ?_ GE344.out) | exact HB.out)) hb); clear HO373; clear HO379; clear HO385; clear BK344; clear HB; have HO373 := n0_; have HO379 := n1_; have HO385 := n2_; have BK344 := n3_; have HB := n4_; clear n0_ n1_ n2_ n3_ n4_; (try clear hb); (try clear hb2); (try clear hk); (try clear hi); have p44 : 0 ≤ (2 : Int) := (by omega); have q44 : (2 : Int) < ((y383.length : Int) : Int) := of_decide_eq_true (by first | (with_reducible assumption) | assumption); have qi44 : (2 < y383.length) = True := eq_true (by omega); obtain ⟨go44, co44, eo44, gb44, gl44, cl44, HG44⟩ := Kd.R_form HO385.out (by omega); (first | cases eo44 | (injection eo44 with ea_ en_ ec_; (first | subst ea_ | (injection ea_ with ea_; subst ea_)); subst ec_; clear en_)); have GB44 := Aside0.mk gb44; have GG44 := Aside0.mk HG44; clear gb44 gl44 HG44; obtain ⟨hx44_0, hf44_0⟩ := Kd.R_celln 0 HO385.out (2 : Int) p44 q44; (try rw [show ((2 : Int)).toNat = 2 from rfl] at hx44_0); (try simp only [Nat.reduceMul, Nat.zero_mul, Nat.zero_add, Nat.reduceAdd] at hx44_0); (try rw [show ((2 : Int)).toNat = 2 from rfl] at hf44_0); (try simp only [Nat.reduceMul, Nat.zero_mul, Nat.zero_add, Nat.reduceAdd] at hf44_0); replace p44 := eq_true p44; replace q44 := eq_true q44; obtain ⟨hy62_, hz62_⟩ := Kd.R_celln 0 HO385.out (2 : Int) (by omega) (of_decide_eq_true (by first | (with_reducible assumption) | assumption)); (try simp only [Int.reduceToNat, Int.toNat_zero, Int.toNat_ofNat, Nat.reduceMul, Nat.zero_mul, Nat.zero_add] at hy62_ hz62_); (try rw [show ((2 : Int)).toNat = 2 from rfl] at hy62_); (try rw [show ((2 : Int)).toNat = 2 from rfl] at hz62_); have HP62 := Kd.R_putg HO385.out (2 : Int) ((wrap64 (Int.tdiv t386 256)) % 256)) | ((with_reducible refine gate_store (t := 5) (p := 44) rfl ?_); refine store_event (t := 5) (p := 44) (v := ?vo_w63) (w1 := (w61.setCell ⟨go44, (2 : Int).toNat, none⟩ (.int .u8 ((wrap64 (Int.tdiv t386 256)) % 256)))) ?hg ?ho ?hn ?hr ?_; (case ho => rfl); (case hg => rfl); (case hn => rfl); (case hr => first | (go_simp; done) | (go_simp; rfl)); intro w63 hw; have hg : w61.grownBy w63 (some go44) := (by rw [hw]; exact HP62.2); have hp_ : Kd.R (Kd.int .u8) 5 w63 w.heap.size (fun k_ => some k_ ≠ (.slice Ao54 t371.length co54 : Value).ownBlock ∧ some k_ ≠ (.slice Ao58 t377.length co58 : Value).ownBlock) (.slice (some ⟨go44, 0, none⟩) y383.length co60) y387 := (by rw [hw, Ny387.out]; exact HP62.1); clear HP62; have n0_ := Aside0.mk (blk_grown (g := gb344) (o := .cells #[.bool a2_0, .int .i64 a2_1, .int .i64 a2_2, .slice A2_3 l2_3.length c2_3] 61 (0, 0)) (by (with_reducible repeat (first | refine blk_drewN ?_ _ | refine blk_drew ?_ | refine blk_alloc ?_ _)); exact BK344.out) hg (Kd.R_ne HO385.out BK344.out (by decide))); have n1_ := Aside0.mk (Kd.R_after (v := (.slice (some ⟨go44, 0, none⟩) y383.length co60)) (v1 := (.slice (some ⟨go44, 0, none⟩) y383.length co60)) (ok := (fun k_ => some k_ ≠ (.slice Ao58 t377.length co58 : Value).ownBlock)) (by (with_reducible repeat (first | apply Kd.R_alloc | apply Kd.R_drewN | apply Kd.R_drew)); (first | exact HO373.out | exact Kd.R_mono HO373.out (fun _ hk => ⟨trivial, hk⟩) | exact Kd.R_mono HO373.out (fun _ hk => by simp only [and_assoc] at hk ⊢; exact hk))) hg (.inl rfl)); have n2_ := Aside0.mk (Kd.R_after (v := (.slice (some ⟨go44, 0, none⟩) y383.length co60)) (v1 := (.slice (some ⟨go44, 0, none⟩) y383.length co60)) (ok := (fun k_ => some k_ ≠ (.slice Ao54 t371.length co54 : Value).ownBlock)) (by (with_reducible repeat (first | apply Kd.R_alloc | apply Kd.R_drewN | apply Kd.R_drew)); (first | exact HO379.out | exact Kd.R_mono HO379.out (fun _ hk => ⟨trivial, hk⟩) | exact Kd.R_mono HO379.out (fun _ hk => by simp only [and_assoc] at hk ⊢; exact hk))) hg (.inl rfl)); have n3_ := Aside0.mk (hp_); have n4_ := Aside0.mk ((by rw [hw]; exact below_set (HB.out) GB44.out : Below w.heap.size w w63)); clear BK344; clear HO373; clear HO379; clear HO385; clear HB; have BK344 := n0_; have HO373 := n1_; have HO379 := n2_; have HO385 := n3_; have HB := n4_; clear n0_ n1_ n2_ n3_ n4_; clear hg hw hp_; have p46 : 0 ≤ (3 : Int) := (by omega); have q46 : (3 : Int) < ((y383.length : Int) : Int) := of_decide_eq_true (by first | (with_reducible assumption) | assumption); have qi46 : (3 < y383.length) = True := eq_true (by omega); obtain ⟨hx46_0, hf46_0⟩ := Kd.R_celln 0 HO385.out (3 : Int) p46 q46; (try rw [show ((3 : Int)).toNat = 3 from rfl] at hx46_0); (try simp only [Nat.reduceMul, Nat.zero_mul, Nat.zero_add, Nat.reduceAdd] at hx46_0); (try rw [show ((3 : Int)).toNat = 3 from rfl] at hf46_0); (try simp only [Nat.reduceMul, Nat.zero_mul, Nat.zero_add, Nat.reduceAdd] at hf46_0); replace p46 := eq_true p46; replace q46 := eq_true q46; obtain ⟨hy64_, hz64_⟩ := Kd.R_celln 0 HO385.out (3 : Int) (by omega) (of_decide_eq_true (by first | (with_reducible assumption) | assumption)); (try simp only [Int.reduceToNat, Int.toNat_zero, Int.toNat_ofNat, Nat.reduceMul, Nat.zero_mul, Nat.zero_add] at hy64_ hz64_); (try rw [show ((3 : Int)).toNat = 3 from rfl] at hy64_); (try rw [show ((3 : Int)).toNat = 3 from rfl] at hz64_); have HP64 := Kd.R_putg HO385.out (3 : Int) ((Int.tmod t386 256) % 256)) | ((with_reducible refine gate_store (t := 5) (p := 49) rfl ?_); refine store_event (t := 5) (p := 49) (v := ?vo_w65) (w1 := (w63.setCell ⟨go44, (3 : Int).toNat, none⟩ (.int .u8 ((Int.tmod t386 256) % 256)))) ?hg ?ho ?hn ?hr ?_; (case ho => rfl); (case hg => rfl); (case hn => rfl); (case hr => first | (go_simp; done) | (go_simp; rfl)); intro w65 hw; have hg : w63.grownBy w65 (some go44) := (by rw [hw]; exact HP64.2); have hp_ : Kd.R (Kd.int .u8) 5 w65 w.heap.size (fun k_ => some k_ ≠ (.slice Ao54 t371.length co54 : Value).ownBlock ∧ some k_ ≠ (.slice Ao58 t377.length co58 : Value).ownBlock) (.slice (some ⟨go44, 0, none⟩) y383.length co60) y388 := (by rw [hw, Ny388.out]; exact HP64.1); clear HP64; have n0_ := Aside0.mk (blk_grown (g := gb344) (o := .cells #[.bool a2_0, .int .i64 a2_1, .int .i64 a2_2, .slice A2_3 l2_3.length c2_3] 61 (0, 0)) (by (with_reducible repeat (first | refine blk_drewN ?_ _ | refine blk_drew ?_ | refine blk_alloc ?_ _)); exact BK344.out) hg (Kd.R_ne HO385.out BK344.out (by decide))); have n1_ := Aside0.mk (Kd.R_after (v := (.slice (some ⟨go44, 0, none⟩) y383.length co60)) (v1 := (.slice (some ⟨go44, 0, none⟩) y383.length co60)) (ok := (fun k_ => some k_ ≠ (.slice Ao58 t377.length co58 : Value).ownBlock)) (by (with_reducible repeat (first | apply Kd.R_alloc | apply Kd.R_drewN | apply Kd.R_drew)); (first | exact HO373.out | exact Kd.R_mono HO373.out (fun _ hk => ⟨trivial, hk⟩) | exact Kd.R_mono HO373.out (fun _ hk => by simp only [and_assoc] at hk ⊢; exact hk))) hg (.inl rfl)); have n2_ := Aside0.mk (Kd.R_after (v := (.slice (some ⟨go44, 0, none⟩) y383.length co60)) (v1 := (.slice (some ⟨go44, 0, none⟩) y383.length co60)) (ok := (fun k_ => some k_ ≠ (.slice Ao54 t371.length co54 : Value).ownBlock)) (by (with_reducible repeat (first | apply Kd.R_alloc | apply Kd.R_drewN | apply Kd.R_drew)); (first | exact HO379.out | exact Kd.R_mono HO379.out (fun _ hk => ⟨trivial, hk⟩) | exact Kd.R_mono HO379.out (fun _ hk => by simp only [and_assoc] at hk ⊢; exact hk))) hg (.inl rfl)); have n3_ := Aside0.mk (hp_); have n4_ := Aside0.mk ((by rw [hw]; exact below_set (HB.out) GB44.out : Below w.heap.size w w65)); clear BK344; clear HO373; clear HO379; clear HO385; clear HB; have BK344 := n0_; have HO373 := n1_; have HO379 := n2_; have HO385 := n3_; have HB := n4_; clear n0_ n1_ n2_ n3_ n4_; clear hg hw hp_))
              go_ret
              exact ⟨_, by first | rfl | (simp [errW_none, errW_some] <;> rfl) | (simp [*, errW_none, errW_some] <;> rfl), by (with_reducible repeat (first | apply Kd.R_alloc | apply Kd.R_drewN | apply Kd.R_drew)); exact Kd.R_mono HO385.out (fun _ hk => trivial), by repeat (first | (with_reducible first | exact HB.out | apply below_alloc | apply pw_below_drewN | apply below_drew1 | refine below_set ?_ GE344.out) | exact HB.out)⟩
            · rw [if_neg c45] at H
              exact absurd H (by simp)
          · rw [if_neg c43] at H
            exact absurd H (by simp)
        · rw [if_neg c41] at H
          exact absurd H (by simp)
      · rw [if_neg c40] at H
        exact absurd H (by simp)
    · rw [if_neg c38] at H
      exact absurd H (by simp)

/-! ### spec_EchoBytes: function 42 -/
def spec_EchoBytes.f (k : Nat) (a0 : ByteArray) (a1 : ByteArray) (a2_0 : Bool) (a2_1 : Int) (a2_2 : Int) (l2_3 : List Int) : Option (List Int × Int) := (spec_l09Pair.f a0 a1).bind fun t390 => (if t390 = true then ((spec_l01In.f a2_1 0 65535).bind fun t391 => (if t391 = true then ((spec_l01In.f a2_2 0 65535).bind fun t392 => (if t392 = true then (if (l2_3.length : Int) > 1492 then (some ((([] : List Int)), 1)) else ((spec_l09EchoBytes.f k a0 a1 a2_0 a2_1 a2_2 l2_3).bind fun t396 => (some (t396, 0)))) else (some ((([] : List Int)), 1)))) else (some ((([] : List Int)), 1)))) else (some ((([] : List Int)), 1)))
theorem spec_EchoBytes.mono : ∀ a0 a1 a2 a3 a4 a5 k, LeO (spec_EchoBytes.f k a0 a1 a2 a3 a4 a5) (spec_EchoBytes.f (k + 1) a0 a1 a2 a3 a4 a5) := by
  intro a0 a1 a2 a3 a4 a5 k
  unfold spec_EchoBytes.f
  repeat' first
      | (with_reducible exact spec_l09EchoBytes.mono _ _ _ _ _ _ _)
      | (with_reducible exact LeO.refl _)
      | (with_reducible exact LeO.none _)
      | (with_reducible refine LeO.ite ?_ ?_)
      | (with_reducible refine LeO.bind ?_ (fun _ => ?_))
      | exact spec_l09EchoBytes.mono _ _ _ _ _ _ _
      | exact LeO.none _
      | refine LeO.ite ?_ ?_
      | refine LeO.bind ?_ (fun _ => ?_)
set_option maxHeartbeats 8000000 in
set_option maxRecDepth 100000 in
theorem spec_EchoBytes.calls (k : Nat) (a0 : ByteArray) (a1 : ByteArray) (a2_0 : Bool) (a2_1 : Int) (a2_2 : Int) (A2_3 : Option Addr) (c2_3 : Nat) (l2_3 : List Int) (r1 : List Int) (r2 : Int) (w : World) (hr2_3 : Kd.C (Kd.int .u8) w A2_3 l2_3.length l2_3) (hc2_3 : l2_3.length ≤ c2_3) (h : spec_EchoBytes.f k a0 a1 a2_0 a2_1 a2_2 l2_3 = some (r1, r2)) :
    Calls Try.prog 42 #[.string a0, .string a1, .agg #[.bool a2_0, .int .i64 a2_1, .int .i64 a2_2, .slice A2_3 l2_3.length c2_3]] w fun e w' => ∃ v0_ : Value, e = .returned (.tuple #[v0_, .int .i64 r2]) ∧ Kd.R (Kd.int .u8) 5 w' w.heap.size (fun _ => True) v0_ r1 ∧ Below w.heap.size w w' := by
  have hu61 := Try.underlying61
  have HR2_3 := Aside0.mk hr2_3
  have HC2_3 := Aside0.mk hc2_3
  clear hr2_3 hc2_3
  have HB := Aside0.mk (Below.refl w.heap.size w)
  have H : ((spec_l09Pair.f a0 a1).bind fun t390 => (if t390 = true then ((spec_l01In.f a2_1 0 65535).bind fun t391 => (if t391 = true then ((spec_l01In.f a2_2 0 65535).bind fun t392 => (if t392 = true then (if (l2_3.length : Int) > 1492 then (some ((([] : List Int)), 1)) else ((spec_l09EchoBytes.f k a0 a1 a2_0 a2_1 a2_2 l2_3).bind fun t396 => (some (t396, 0)))) else (some ((([] : List Int)), 1)))) else (some ((([] : List Int)), 1)))) else (some ((([] : List Int)), 1)))) = some (r1, r2) := h
  clear h
  replace H := Option.bind_eq_some_iff.mp H
  obtain ⟨t390, A40, H⟩ := H
  replace H : (if t390 = true then ((spec_l01In.f a2_1 0 65535).bind fun t391 => (if t391 = true then ((spec_l01In.f a2_2 0 65535).bind fun t392 => (if t392 = true then (if (l2_3.length : Int) > 1492 then (some ((([] : List Int)), 1)) else ((spec_l09EchoBytes.f k a0 a1 a2_0 a2_1 a2_2 l2_3).bind fun t396 => (some (t396, 0)))) else (some ((([] : List Int)), 1)))) else (some ((([] : List Int)), 1)))) else (some ((([] : List Int)), 1))) = some (r1, r2) := H
  have A4 := Aside0.mk A40
  clear A40
  by_cases c5 : t390 = true
  · subst c5
    have H1 : ((spec_l01In.f a2_1 0 65535).bind fun t391 => (if t391 = true then ((spec_l01In.f a2_2 0 65535).bind fun t392 => (if t392 = true then (if (l2_3.length : Int) > 1492 then (some ((([] : List Int)), 1)) else ((spec_l09EchoBytes.f k a0 a1 a2_0 a2_1 a2_2 l2_3).bind fun t396 => (some (t396, 0)))) else (some ((([] : List Int)), 1)))) else (some ((([] : List Int)), 1)))) = some (r1, r2) := by rw [if_pos rfl] at H; exact H
    clear H
    have H := H1
    clear H1
    replace H := Option.bind_eq_some_iff.mp H
    obtain ⟨t391, A60, H⟩ := H
    replace H : (if t391 = true then ((spec_l01In.f a2_2 0 65535).bind fun t392 => (if t392 = true then (if (l2_3.length : Int) > 1492 then (some ((([] : List Int)), 1)) else ((spec_l09EchoBytes.f k a0 a1 a2_0 a2_1 a2_2 l2_3).bind fun t396 => (some (t396, 0)))) else (some ((([] : List Int)), 1)))) else (some ((([] : List Int)), 1))) = some (r1, r2) := H
    have A6 := Aside0.mk A60
    clear A60
    by_cases c7 : t391 = true
    · subst c7
      have H1 : ((spec_l01In.f a2_2 0 65535).bind fun t392 => (if t392 = true then (if (l2_3.length : Int) > 1492 then (some ((([] : List Int)), 1)) else ((spec_l09EchoBytes.f k a0 a1 a2_0 a2_1 a2_2 l2_3).bind fun t396 => (some (t396, 0)))) else (some ((([] : List Int)), 1)))) = some (r1, r2) := by rw [if_pos rfl] at H; exact H
      clear H
      have H := H1
      clear H1
      replace H := Option.bind_eq_some_iff.mp H
      obtain ⟨t392, A80, H⟩ := H
      replace H : (if t392 = true then (if (l2_3.length : Int) > 1492 then (some ((([] : List Int)), 1)) else ((spec_l09EchoBytes.f k a0 a1 a2_0 a2_1 a2_2 l2_3).bind fun t396 => (some (t396, 0)))) else (some ((([] : List Int)), 1))) = some (r1, r2) := H
      have A8 := Aside0.mk A80
      clear A80
      by_cases c9 : t392 = true
      · subst c9
        have H1 : (if (l2_3.length : Int) > 1492 then (some ((([] : List Int)), 1)) else ((spec_l09EchoBytes.f k a0 a1 a2_0 a2_1 a2_2 l2_3).bind fun t396 => (some (t396, 0)))) = some (r1, r2) := by rw [if_pos rfl] at H; exact H
        clear H
        have H := H1
        clear H1
        by_cases c10 : (l2_3.length : Int) > 1492
        · rw [if_pos c10] at H
          have c10b0 : decide (1492 < (l2_3.length : Int)) = true := decide_eq_true c10
          have c10b1 : decide (1492 < l2_3.length) = true := decide_eq_true (by omega)
          clear c10
          obtain ⟨y393, hy393⟩ : ∃ y_ : List Int, y_ = (([] : List Int)) := ⟨_, rfl⟩
          replace H : (some (y393, 1)) = some (r1, r2) := by first | (rw [hy393]; with_reducible exact H) | (have H2_ := (Option.bind_some _ _).symm.trans H; rw [hy393]; with_reducible exact H2_) | (have H2_ := (Option.bind_some _ _).symm.trans H; with_reducible exact H2_) | with_reducible exact H | (rw [hy393]; exact H) | exact H
          have Ny393 := Aside0.mk hy393
          clear hy393
          simp only [Option.some.injEq, Prod.mk.injEq] at H
          obtain ⟨rfl, rfl⟩ := H
          go_enter Try.func42, Try.ntmps42
          go_wp2_with (first | ((with_reducible refine gate_dst (N := 5) rfl ?_); refine box_event ?hg (N := 5) ?hd (cs := #[.bool a2_0, .int .i64 a2_1, .int .i64 a2_2, .slice A2_3 l2_3.length c2_3]) (t := 61) ?hr ?_; (case hd => rfl); (case hg => rfl); (case hr => first | (go_simp; done) | (go_simp; rfl)); intro gb389 hg w11 hbox hb; have n0_ := Aside0.mk (below_step (by repeat (first | (with_reducible first | exact HB.out | apply below_alloc | apply pw_below_drewN | apply below_drew1) | exact HB.out)) hb); have n1_ := Aside0.mk (hbox); have n2_ := Aside0.mk ((by rw [hg]; exact (below_size (by repeat (first | (with_reducible first | exact HB.out | apply below_alloc | apply pw_below_drewN | apply below_drew1) | exact HB.out))) : w.heap.size ≤ gb389)); have n3_ := Aside0.mk ((by rw [hg]; exact (below_size (by repeat (first | (with_reducible first | exact HB.out | apply below_alloc | apply pw_below_drewN | apply below_drew1) | exact HB.out))) : w.heap.size ≤ gb389)); clear HB; have HB := n0_; have BK389 := n1_; have GW389 := n2_; have GE389 := n3_; clear n0_ n1_ n2_ n3_; clear hb hbox hg) | ((with_reducible refine gate_callee (f := 96) rfl ?_); refine goesL_ (some 10) rfl rfl Try.func96 (by kernel_rfl) rfl #[.string a0, .string a1] rfl (by (try simp only [List.map_toArray, List.map_cons, List.map_nil]); first | done | rfl | (simp only [List.length_drop, List.length_take]; rfl)) ?_; (with_reducible refine (spec_l09Pair.calls a0 a1 true _ A4.out).mono ?_); rintro e w' ⟨rfl, ⟨nd, rfl⟩⟩; refine ⟨_, rfl, ?_⟩; have hcz12_0 : w11.cell? ⟨gb389, 0, none⟩ = some (.bool a2_0) := (blk_cell BK389.out 0).trans rfl; have hcz12_1 : w11.cell? ⟨gb389, 1, none⟩ = some (.int .i64 a2_1) := (blk_cell BK389.out 1).trans rfl; have hcz12_2 : w11.cell? ⟨gb389, 2, none⟩ = some (.int .i64 a2_2) := (blk_cell BK389.out 2).trans rfl; have hcz12_3 : w11.cell? ⟨gb389, 3, none⟩ = some (.slice A2_3 l2_3.length c2_3) := (blk_cell BK389.out 3).trans rfl; have hfz12_0 := blk_frozen BK389.out 0; have hfz12_1 := blk_frozen BK389.out 1; have hfz12_2 := blk_frozen BK389.out 2; have hfz12_3 := blk_frozen BK389.out 3) | (go_at_call 100; (with_reducible refine (spec_l01In.calls a2_1 0 65535 true _ A6.out).mono ?_); rintro e w' ⟨rfl, ⟨nd, rfl⟩⟩) | (go_at_call 100; (with_reducible refine (spec_l01In.calls a2_2 0 65535 true _ A8.out).mono ?_); rintro e w' ⟨rfl, ⟨nd, rfl⟩⟩) | ((with_reducible refine gate_dst (N := 30) rfl ?_); refine Kd.R_lit (Kd.int .u8) _ 5 ?hg (N := 30) ?hd (xs := ([] : List Int)) (inner := []) (ok := fun _ => True) (okp := fun _ => True) ?hr ?hp (fun _ hk => hk) trivial (Below.refl _ _) (Nat.le_refl _) (by simp) ?_; (case hd => rfl); (case hg => rfl); (case hr => first | (go_simp; done) | (go_simp; rfl)); (case hp => exact (Reps.none _ _)); intro v394 w13 ho14 hb hg_ hnew_; clear hg_ hnew_; (first | rw [← Ny393.out] at ho14 | (simp only [Int.reduceToNat] at ho14; rw [← Ny393.out] at ho14)); have n0_ := Aside0.mk (Kd.R_lower ho14 (below_size (by repeat (first | (with_reducible first | exact HB.out | apply below_alloc | apply pw_below_drewN | apply below_drew1 | refine below_set ?_ GE389.out) | exact HB.out)))); have n1_ := Aside0.mk (blk_below (g := gb389) (o := .cells #[.bool a2_0, .int .i64 a2_1, .int .i64 a2_2, .slice A2_3 l2_3.length c2_3] 61 (0, 0)) (by (with_reducible repeat (first | refine blk_drewN ?_ _ | refine blk_drew ?_ | refine blk_alloc ?_ _)); exact BK389.out) hb); have n2_ := Aside0.mk (below_step (by repeat (first | (with_reducible first | exact HB.out | apply below_alloc | apply pw_below_drewN | apply below_drew1 | refine below_set ?_ GE389.out) | exact HB.out)) hb); clear BK389; clear HB; have HO395 := n0_; have BK389 := n1_; have HB := n2_; clear n0_ n1_ n2_; clear hb ho14))
          go_ret2
          exact ⟨_, by first | rfl | (simp [errW_none, errW_some] <;> rfl) | (simp [*, errW_none, errW_some] <;> rfl), by (with_reducible repeat (first | apply Kd.R_alloc | apply Kd.R_drewN | apply Kd.R_drew)); exact HO395.out, by repeat (first | (with_reducible first | exact HB.out | apply below_alloc | apply pw_below_drewN | apply below_drew1 | refine below_set ?_ GE389.out) | exact HB.out)⟩
        · rw [if_neg c10] at H
          have c10b0 : decide (1492 < (l2_3.length : Int)) = false := decide_eq_false c10
          have c10b1 : decide (1492 < l2_3.length) = false := decide_eq_false (by omega)
          clear c10
          replace H := Option.bind_eq_some_iff.mp H
          obtain ⟨t396, A150, H⟩ := H
          replace H : (some (t396, 0)) = some (r1, r2) := H
          have A15 := Aside0.mk A150
          clear A150
          simp only [Option.some.injEq, Prod.mk.injEq] at H
          obtain ⟨rfl, rfl⟩ := H
          go_enter Try.func42, Try.ntmps42
          go_wp2_with (first | ((with_reducible refine gate_dst (N := 5) rfl ?_); refine box_event ?hg (N := 5) ?hd (cs := #[.bool a2_0, .int .i64 a2_1, .int .i64 a2_2, .slice A2_3 l2_3.length c2_3]) (t := 61) ?hr ?_; (case hd => rfl); (case hg => rfl); (case hr => first | (go_simp; done) | (go_simp; rfl)); intro gb389 hg w16 hbox hb; have n0_ := Aside0.mk (below_step (by repeat (first | (with_reducible first | exact HB.out | apply below_alloc | apply pw_below_drewN | apply below_drew1) | exact HB.out)) hb); have n1_ := Aside0.mk (hbox); have n2_ := Aside0.mk ((by rw [hg]; exact (below_size (by repeat (first | (with_reducible first | exact HB.out | apply below_alloc | apply pw_below_drewN | apply below_drew1) | exact HB.out))) : w.heap.size ≤ gb389)); have n3_ := Aside0.mk ((by rw [hg]; exact (below_size (by repeat (first | (with_reducible first | exact HB.out | apply below_alloc | apply pw_below_drewN | apply below_drew1) | exact HB.out))) : w.heap.size ≤ gb389)); clear HB; have HB := n0_; have BK389 := n1_; have GW389 := n2_; have GE389 := n3_; clear n0_ n1_ n2_ n3_; clear hb hbox hg) | ((with_reducible refine gate_callee (f := 96) rfl ?_); refine goesL_ (some 10) rfl rfl Try.func96 (by kernel_rfl) rfl #[.string a0, .string a1] rfl (by (try simp only [List.map_toArray, List.map_cons, List.map_nil]); first | done | rfl | (simp only [List.length_drop, List.length_take]; rfl)) ?_; (with_reducible refine (spec_l09Pair.calls a0 a1 true _ A4.out).mono ?_); rintro e w' ⟨rfl, ⟨nd, rfl⟩⟩; refine ⟨_, rfl, ?_⟩; have hcz17_0 : w16.cell? ⟨gb389, 0, none⟩ = some (.bool a2_0) := (blk_cell BK389.out 0).trans rfl; have hcz17_1 : w16.cell? ⟨gb389, 1, none⟩ = some (.int .i64 a2_1) := (blk_cell BK389.out 1).trans rfl; have hcz17_2 : w16.cell? ⟨gb389, 2, none⟩ = some (.int .i64 a2_2) := (blk_cell BK389.out 2).trans rfl; have hcz17_3 : w16.cell? ⟨gb389, 3, none⟩ = some (.slice A2_3 l2_3.length c2_3) := (blk_cell BK389.out 3).trans rfl; have hfz17_0 := blk_frozen BK389.out 0; have hfz17_1 := blk_frozen BK389.out 1; have hfz17_2 := blk_frozen BK389.out 2; have hfz17_3 := blk_frozen BK389.out 3) | (go_at_call 100; (with_reducible refine (spec_l01In.calls a2_1 0 65535 true _ A6.out).mono ?_); rintro e w' ⟨rfl, ⟨nd, rfl⟩⟩) | (go_at_call 100; (with_reducible refine (spec_l01In.calls a2_2 0 65535 true _ A8.out).mono ?_); rintro e w' ⟨rfl, ⟨nd, rfl⟩⟩) | ((with_reducible refine gate_callee (f := 106) rfl ?_); refine goesL_ (some 34) rfl rfl Try.func106 (by kernel_rfl) rfl #[.string a0, .string a1, .agg #[.bool a2_0, .int .i64 a2_1, .int .i64 a2_2, .slice A2_3 l2_3.length c2_3]] rfl (by (try simp only [List.map_toArray, List.map_cons, List.map_nil]); first | done | rfl | (simp only [List.length_drop, List.length_take]; rfl)) ?_; (with_reducible refine (spec_l09EchoBytes.calls k a0 a1 a2_0 a2_1 a2_2 _ _ l2_3 t396 _ ?side1 ?side2 A15.out).mono ?_); (case side1 => repeat (first | exact (Kd.C_below HR2_3.out (by repeat (first | (with_reducible first | exact HB.out | apply below_alloc | apply pw_below_drewN | apply below_drew1 | refine below_set ?_ GE389.out) | exact HB.out))) | (with_reducible refine Kd.C_alloc ?_ _) | (with_reducible refine Kd.C_drewN ?_ _) | (with_reducible refine Kd.C_drew ?_))); (case side2 => exact HC2_3.out); rintro e w18 ⟨v397, rfl, ho0, hb⟩; refine ⟨_, rfl, ?_⟩; have n0_ := Aside0.mk (Kd.R_lower ho0 (below_size (by repeat (first | (with_reducible first | exact HB.out | apply below_alloc | apply pw_below_drewN | apply below_drew1 | refine below_set ?_ GE389.out) | exact HB.out)))); have n1_ := Aside0.mk (blk_below (g := gb389) (o := .cells #[.bool a2_0, .int .i64 a2_1, .int .i64 a2_2, .slice A2_3 l2_3.length c2_3] 61 (0, 0)) (by (with_reducible repeat (first | refine blk_drewN ?_ _ | refine blk_drew ?_ | refine blk_alloc ?_ _)); exact BK389.out) hb); have n2_ := Aside0.mk (below_step (by repeat (first | (with_reducible first | exact HB.out | apply below_alloc | apply pw_below_drewN | apply below_drew1 | refine below_set ?_ GE389.out) | exact HB.out)) hb); clear BK389; clear HB; have HO398 := n0_; have BK389 := n1_; have HB := n2_; clear n0_ n1_ n2_; (try clear hb); (try clear hb2); (try clear hk); (try clear hi); (try clear ho0)))
          go_ret2
          exact ⟨_, by first | rfl | (simp [errW_none, errW_some] <;> rfl) | (simp [*, errW_none, errW_some] <;> rfl), by (with_reducible repeat (first | apply Kd.R_alloc | apply Kd.R_drewN | apply Kd.R_drew)); exact HO398.out, by repeat (first | (with_reducible first | exact HB.out | apply below_alloc | apply pw_below_drewN | apply below_drew1 | refine below_set ?_ GE389.out) | exact HB.out)⟩
      · replace c9 := Bool.eq_false_iff.mpr c9
        subst c9
        have H1 : (some ((([] : List Int)), 1)) = some (r1, r2) := by rw [if_neg (show ¬ (false = true) by decide)] at H; exact H
        clear H
        have H := H1
        clear H1
        obtain ⟨y399, hy399⟩ : ∃ y_ : List Int, y_ = (([] : List Int)) := ⟨_, rfl⟩
        replace H : (some (y399, 1)) = some (r1, r2) := by first | (rw [hy399]; with_reducible exact H) | (have H2_ := (Option.bind_some _ _).symm.trans H; rw [hy399]; with_reducible exact H2_) | (have H2_ := (Option.bind_some _ _).symm.trans H; with_reducible exact H2_) | with_reducible exact H | (rw [hy399]; exact H) | exact H
        have Ny399 := Aside0.mk hy399
        clear hy399
        simp only [Option.some.injEq, Prod.mk.injEq] at H
        obtain ⟨rfl, rfl⟩ := H
        go_enter Try.func42, Try.ntmps42
        go_wp2_with (first | ((with_reducible refine gate_dst (N := 5) rfl ?_); refine box_event ?hg (N := 5) ?hd (cs := #[.bool a2_0, .int .i64 a2_1, .int .i64 a2_2, .slice A2_3 l2_3.length c2_3]) (t := 61) ?hr ?_; (case hd => rfl); (case hg => rfl); (case hr => first | (go_simp; done) | (go_simp; rfl)); intro gb389 hg w19 hbox hb; have n0_ := Aside0.mk (below_step (by repeat (first | (with_reducible first | exact HB.out | apply below_alloc | apply pw_below_drewN | apply below_drew1) | exact HB.out)) hb); have n1_ := Aside0.mk (hbox); have n2_ := Aside0.mk ((by rw [hg]; exact (below_size (by repeat (first | (with_reducible first | exact HB.out | apply below_alloc | apply pw_below_drewN | apply below_drew1) | exact HB.out))) : w.heap.size ≤ gb389)); have n3_ := Aside0.mk ((by rw [hg]; exact (below_size (by repeat (first | (with_reducible first | exact HB.out | apply below_alloc | apply pw_below_drewN | apply below_drew1) | exact HB.out))) : w.heap.size ≤ gb389)); clear HB; have HB := n0_; have BK389 := n1_; have GW389 := n2_; have GE389 := n3_; clear n0_ n1_ n2_ n3_; clear hb hbox hg) | ((with_reducible refine gate_callee (f := 96) rfl ?_); refine goesL_ (some 10) rfl rfl Try.func96 (by kernel_rfl) rfl #[.string a0, .string a1] rfl (by (try simp only [List.map_toArray, List.map_cons, List.map_nil]); first | done | rfl | (simp only [List.length_drop, List.length_take]; rfl)) ?_; (with_reducible refine (spec_l09Pair.calls a0 a1 true _ A4.out).mono ?_); rintro e w' ⟨rfl, ⟨nd, rfl⟩⟩; refine ⟨_, rfl, ?_⟩; have hcz20_0 : w19.cell? ⟨gb389, 0, none⟩ = some (.bool a2_0) := (blk_cell BK389.out 0).trans rfl; have hcz20_1 : w19.cell? ⟨gb389, 1, none⟩ = some (.int .i64 a2_1) := (blk_cell BK389.out 1).trans rfl; have hcz20_2 : w19.cell? ⟨gb389, 2, none⟩ = some (.int .i64 a2_2) := (blk_cell BK389.out 2).trans rfl; have hcz20_3 : w19.cell? ⟨gb389, 3, none⟩ = some (.slice A2_3 l2_3.length c2_3) := (blk_cell BK389.out 3).trans rfl; have hfz20_0 := blk_frozen BK389.out 0; have hfz20_1 := blk_frozen BK389.out 1; have hfz20_2 := blk_frozen BK389.out 2; have hfz20_3 := blk_frozen BK389.out 3) | (go_at_call 100; (with_reducible refine (spec_l01In.calls a2_1 0 65535 true _ A6.out).mono ?_); rintro e w' ⟨rfl, ⟨nd, rfl⟩⟩) | (go_at_call 100; (with_reducible refine (spec_l01In.calls a2_2 0 65535 false _ A8.out).mono ?_); rintro e w' ⟨rfl, ⟨nd, rfl⟩⟩) | ((with_reducible refine gate_dst (N := 30) rfl ?_); refine Kd.R_lit (Kd.int .u8) _ 5 ?hg (N := 30) ?hd (xs := ([] : List Int)) (inner := []) (ok := fun _ => True) (okp := fun _ => True) ?hr ?hp (fun _ hk => hk) trivial (Below.refl _ _) (Nat.le_refl _) (by simp) ?_; (case hd => rfl); (case hg => rfl); (case hr => first | (go_simp; done) | (go_simp; rfl)); (case hp => exact (Reps.none _ _)); intro v400 w21 ho22 hb hg_ hnew_; clear hg_ hnew_; (first | rw [← Ny399.out] at ho22 | (simp only [Int.reduceToNat] at ho22; rw [← Ny399.out] at ho22)); have n0_ := Aside0.mk (Kd.R_lower ho22 (below_size (by repeat (first | (with_reducible first | exact HB.out | apply below_alloc | apply pw_below_drewN | apply below_drew1 | refine below_set ?_ GE389.out) | exact HB.out)))); have n1_ := Aside0.mk (blk_below (g := gb389) (o := .cells #[.bool a2_0, .int .i64 a2_1, .int .i64 a2_2, .slice A2_3 l2_3.length c2_3] 61 (0, 0)) (by (with_reducible repeat (first | refine blk_drewN ?_ _ | refine blk_drew ?_ | refine blk_alloc ?_ _)); exact BK389.out) hb); have n2_ := Aside0.mk (below_step (by repeat (first | (with_reducible first | exact HB.out | apply below_alloc | apply pw_below_drewN | apply below_drew1 | refine below_set ?_ GE389.out) | exact HB.out)) hb); clear BK389; clear HB; have HO401 := n0_; have BK389 := n1_; have HB := n2_; clear n0_ n1_ n2_; clear hb ho22))
        go_ret2
        exact ⟨_, by first | rfl | (simp [errW_none, errW_some] <;> rfl) | (simp [*, errW_none, errW_some] <;> rfl), by (with_reducible repeat (first | apply Kd.R_alloc | apply Kd.R_drewN | apply Kd.R_drew)); exact HO401.out, by repeat (first | (with_reducible first | exact HB.out | apply below_alloc | apply pw_below_drewN | apply below_drew1 | refine below_set ?_ GE389.out) | exact HB.out)⟩
    · replace c7 := Bool.eq_false_iff.mpr c7
      subst c7
      have H1 : (some ((([] : List Int)), 1)) = some (r1, r2) := by rw [if_neg (show ¬ (false = true) by decide)] at H; exact H
      clear H
      have H := H1
      clear H1
      obtain ⟨y402, hy402⟩ : ∃ y_ : List Int, y_ = (([] : List Int)) := ⟨_, rfl⟩
      replace H : (some (y402, 1)) = some (r1, r2) := by first | (rw [hy402]; with_reducible exact H) | (have H2_ := (Option.bind_some _ _).symm.trans H; rw [hy402]; with_reducible exact H2_) | (have H2_ := (Option.bind_some _ _).symm.trans H; with_reducible exact H2_) | with_reducible exact H | (rw [hy402]; exact H) | exact H
      have Ny402 := Aside0.mk hy402
      clear hy402
      simp only [Option.some.injEq, Prod.mk.injEq] at H
      obtain ⟨rfl, rfl⟩ := H
      go_enter Try.func42, Try.ntmps42
      go_wp2_with (first | ((with_reducible refine gate_dst (N := 5) rfl ?_); refine box_event ?hg (N := 5) ?hd (cs := #[.bool a2_0, .int .i64 a2_1, .int .i64 a2_2, .slice A2_3 l2_3.length c2_3]) (t := 61) ?hr ?_; (case hd => rfl); (case hg => rfl); (case hr => first | (go_simp; done) | (go_simp; rfl)); intro gb389 hg w23 hbox hb; have n0_ := Aside0.mk (below_step (by repeat (first | (with_reducible first | exact HB.out | apply below_alloc | apply pw_below_drewN | apply below_drew1) | exact HB.out)) hb); have n1_ := Aside0.mk (hbox); have n2_ := Aside0.mk ((by rw [hg]; exact (below_size (by repeat (first | (with_reducible first | exact HB.out | apply below_alloc | apply pw_below_drewN | apply below_drew1) | exact HB.out))) : w.heap.size ≤ gb389)); have n3_ := Aside0.mk ((by rw [hg]; exact (below_size (by repeat (first | (with_reducible first | exact HB.out | apply below_alloc | apply pw_below_drewN | apply below_drew1) | exact HB.out))) : w.heap.size ≤ gb389)); clear HB; have HB := n0_; have BK389 := n1_; have GW389 := n2_; have GE389 := n3_; clear n0_ n1_ n2_ n3_; clear hb hbox hg) | ((with_reducible refine gate_callee (f := 96) rfl ?_); refine goesL_ (some 10) rfl rfl Try.func96 (by kernel_rfl) rfl #[.string a0, .string a1] rfl (by (try simp only [List.map_toArray, List.map_cons, List.map_nil]); first | done | rfl | (simp only [List.length_drop, List.length_take]; rfl)) ?_; (with_reducible refine (spec_l09Pair.calls a0 a1 true _ A4.out).mono ?_); rintro e w' ⟨rfl, ⟨nd, rfl⟩⟩; refine ⟨_, rfl, ?_⟩; have hcz24_0 : w23.cell? ⟨gb389, 0, none⟩ = some (.bool a2_0) := (blk_cell BK389.out 0).trans rfl; have hcz24_1 : w23.cell? ⟨gb389, 1, none⟩ = some (.int .i64 a2_1) := (blk_cell BK389.out 1).trans rfl; have hcz24_2 : w23.cell? ⟨gb389, 2, none⟩ = some (.int .i64 a2_2) := (blk_cell BK389.out 2).trans rfl; have hcz24_3 : w23.cell? ⟨gb389, 3, none⟩ = some (.slice A2_3 l2_3.length c2_3) := (blk_cell BK389.out 3).trans rfl; have hfz24_0 := blk_frozen BK389.out 0; have hfz24_1 := blk_frozen BK389.out 1; have hfz24_2 := blk_frozen BK389.out 2; have hfz24_3 := blk_frozen BK389.out 3) | (go_at_call 100; (with_reducible refine (spec_l01In.calls a2_1 0 65535 false _ A6.out).mono ?_); rintro e w' ⟨rfl, ⟨nd, rfl⟩⟩) | ((with_reducible refine gate_dst (N := 30) rfl ?_); refine Kd.R_lit (Kd.int .u8) _ 5 ?hg (N := 30) ?hd (xs := ([] : List Int)) (inner := []) (ok := fun _ => True) (okp := fun _ => True) ?hr ?hp (fun _ hk => hk) trivial (Below.refl _ _) (Nat.le_refl _) (by simp) ?_; (case hd => rfl); (case hg => rfl); (case hr => first | (go_simp; done) | (go_simp; rfl)); (case hp => exact (Reps.none _ _)); intro v403 w25 ho26 hb hg_ hnew_; clear hg_ hnew_; (first | rw [← Ny402.out] at ho26 | (simp only [Int.reduceToNat] at ho26; rw [← Ny402.out] at ho26)); have n0_ := Aside0.mk (Kd.R_lower ho26 (below_size (by repeat (first | (with_reducible first | exact HB.out | apply below_alloc | apply pw_below_drewN | apply below_drew1 | refine below_set ?_ GE389.out) | exact HB.out)))); have n1_ := Aside0.mk (blk_below (g := gb389) (o := .cells #[.bool a2_0, .int .i64 a2_1, .int .i64 a2_2, .slice A2_3 l2_3.length c2_3] 61 (0, 0)) (by (with_reducible repeat (first | refine blk_drewN ?_ _ | refine blk_drew ?_ | refine blk_alloc ?_ _)); exact BK389.out) hb); have n2_ := Aside0.mk (below_step (by repeat (first | (with_reducible first | exact HB.out | apply below_alloc | apply pw_below_drewN | apply below_drew1 | refine below_set ?_ GE389.out) | exact HB.out)) hb); clear BK389; clear HB; have HO404 := n0_; have BK389 := n1_; have HB := n2_; clear n0_ n1_ n2_; clear hb ho26))
      go_ret2
      exact ⟨_, by first | rfl | (simp [errW_none, errW_some] <;> rfl) | (simp [*, errW_none, errW_some] <;> rfl), by (with_reducible repeat (first | apply Kd.R_alloc | apply Kd.R_drewN | apply Kd.R_drew)); exact HO404.out, by repeat (first | (with_reducible first | exact HB.out | apply below_alloc | apply pw_below_drewN | apply below_drew1 | refine below_set ?_ GE389.out) | exact HB.out)⟩
  · replace c5 := Bool.eq_false_iff.mpr c5
    subst c5
    have H1 : (some ((([] : List Int)), 1)) = some (r1, r2) := by rw [if_neg (show ¬ (false = true) by decide)] at H; exact H
    clear H
    have H := H1
    clear H1
    obtain ⟨y405, hy405⟩ : ∃ y_ : List Int, y_ = (([] : List Int)) := ⟨_, rfl⟩
    replace H : (some (y405, 1)) = some (r1, r2) := by first | (rw [hy405]; with_reducible exact H) | (have H2_ := (Option.bind_some _ _).symm.trans H; rw [hy405]; with_reducible exact H2_) | (have H2_ := (Option.bind_some _ _).symm.trans H; with_reducible exact H2_) | with_reducible exact H | (rw [hy405]; exact H) | exact H
    have Ny405 := Aside0.mk hy405
    clear hy405
    simp only [Option.some.injEq, Prod.mk.injEq] at H
    obtain ⟨rfl, rfl⟩ := H
    go_enter Try.func42, Try.ntmps42
    go_wp2_with (first | ((with_reducible refine gate_dst (N := 5) rfl ?_); refine box_event ?hg (N := 5) ?hd (cs := #[.bool a2_0, .int .i64 a2_1, .int .i64 a2_2, .slice A2_3 l2_3.length c2_3]) (t := 61) ?hr ?_; (case hd => rfl); (case hg => rfl); (case hr => first | (go_simp; done) | (go_simp; rfl)); intro gb389 hg w27 hbox hb; have n0_ := Aside0.mk (below_step (by repeat (first | (with_reducible first | exact HB.out | apply below_alloc | apply pw_below_drewN | apply below_drew1) | exact HB.out)) hb); have n1_ := Aside0.mk (hbox); have n2_ := Aside0.mk ((by rw [hg]; exact (below_size (by repeat (first | (with_reducible first | exact HB.out | apply below_alloc | apply pw_below_drewN | apply below_drew1) | exact HB.out))) : w.heap.size ≤ gb389)); have n3_ := Aside0.mk ((by rw [hg]; exact (below_size (by repeat (first | (with_reducible first | exact HB.out | apply below_alloc | apply pw_below_drewN | apply below_drew1) | exact HB.out))) : w.heap.size ≤ gb389)); clear HB; have HB := n0_; have BK389 := n1_; have GW389 := n2_; have GE389 := n3_; clear n0_ n1_ n2_ n3_; clear hb hbox hg) | ((with_reducible refine gate_callee (f := 96) rfl ?_); refine goesL_ (some 10) rfl rfl Try.func96 (by kernel_rfl) rfl #[.string a0, .string a1] rfl (by (try simp only [List.map_toArray, List.map_cons, List.map_nil]); first | done | rfl | (simp only [List.length_drop, List.length_take]; rfl)) ?_; (with_reducible refine (spec_l09Pair.calls a0 a1 false _ A4.out).mono ?_); rintro e w' ⟨rfl, ⟨nd, rfl⟩⟩; refine ⟨_, rfl, ?_⟩) | ((with_reducible refine gate_dst (N := 30) rfl ?_); refine Kd.R_lit (Kd.int .u8) _ 5 ?hg (N := 30) ?hd (xs := ([] : List Int)) (inner := []) (ok := fun _ => True) (okp := fun _ => True) ?hr ?hp (fun _ hk => hk) trivial (Below.refl _ _) (Nat.le_refl _) (by simp) ?_; (case hd => rfl); (case hg => rfl); (case hr => first | (go_simp; done) | (go_simp; rfl)); (case hp => exact (Reps.none _ _)); intro v406 w28 ho29 hb hg_ hnew_; clear hg_ hnew_; (first | rw [← Ny405.out] at ho29 | (simp only [Int.reduceToNat] at ho29; rw [← Ny405.out] at ho29)); have n0_ := Aside0.mk (Kd.R_lower ho29 (below_size (by repeat (first | (with_reducible first | exact HB.out | apply below_alloc | apply pw_below_drewN | apply below_drew1 | refine below_set ?_ GE389.out) | exact HB.out)))); have n1_ := Aside0.mk (blk_below (g := gb389) (o := .cells #[.bool a2_0, .int .i64 a2_1, .int .i64 a2_2, .slice A2_3 l2_3.length c2_3] 61 (0, 0)) (by (with_reducible repeat (first | refine blk_drewN ?_ _ | refine blk_drew ?_ | refine blk_alloc ?_ _)); exact BK389.out) hb); have n2_ := Aside0.mk (below_step (by repeat (first | (with_reducible first | exact HB.out | apply below_alloc | apply pw_below_drewN | apply below_drew1 | refine below_set ?_ GE389.out) | exact HB.out)) hb); clear BK389; clear HB; have HO407 := n0_; have BK389 := n1_; have HB := n2_; clear n0_ n1_ n2_; clear hb ho29))
    go_ret2
    exact ⟨_, by first | rfl | (simp [errW_none, errW_some] <;> rfl) | (simp [*, errW_none, errW_some] <;> rfl), by (with_reducible repeat (first | apply Kd.R_alloc | apply Kd.R_drewN | apply Kd.R_drew)); exact HO407.out, by repeat (first | (with_reducible first | exact HB.out | apply below_alloc | apply pw_below_drewN | apply below_drew1 | refine below_set ?_ GE389.out) | exact HB.out)⟩

/-! ### impl_at16: function 99 -/
def impl_at16.f (l0 : List Int) (a1 : Int) : Option (Int) := if 0 ≤ a1 then (if a1 < (l0.length : Int) then (if 0 ≤ (wrap64 (a1 + 1)) then (if (wrap64 (a1 + 1)) < (l0.length : Int) then (some (Go.bits .or .i64 (wrap64 ((wrap64 (rd l0 a1)) * 256)) (wrap64 (rd l0 (wrap64 (a1 + 1)))))) else (none)) else (none)) else (none)) else (none)
set_option maxHeartbeats 8000000 in
set_option maxRecDepth 100000 in
theorem impl_at16.calls (A0 : Option Addr) (c0 : Nat) (l0 : List Int) (a1 : Int) (r : Int) (w : World) (hr0 : Kd.C (Kd.int .u8) w A0 l0.length l0) (hc0 : l0.length ≤ c0) (h : impl_at16.f l0 a1 = some r) :
    Calls Try.prog 99 #[.slice A0 l0.length c0, .int .i64 a1] w fun e w' => e = .returned (.int .i64 r) ∧ Drawn0 w w' := by
  have HR0 := Aside0.mk hr0
  have HC0 := Aside0.mk hc0
  clear hr0 hc0
  have H : (if 0 ≤ a1 then (if a1 < (l0.length : Int) then (if 0 ≤ (wrap64 (a1 + 1)) then (if (wrap64 (a1 + 1)) < (l0.length : Int) then (some (Go.bits .or .i64 (wrap64 ((wrap64 (rd l0 a1)) * 256)) (wrap64 (rd l0 (wrap64 (a1 + 1)))))) else (none)) else (none)) else (none)) else (none)) = some r := h
  clear h
  by_cases c3 : 0 ≤ a1
  · rw [if_pos c3] at H
    have c3b0 : decide (0 ≤ a1) = true := decide_eq_true c3
    clear c3
    by_cases c4 : a1 < (l0.length : Int)
    · rw [if_pos c4] at H
      have c4b0 : decide (a1 < (l0.length : Int)) = true := decide_eq_true c4
      clear c4
      obtain ⟨ji5, hji5⟩ : ∃ j_ : Int, (wrap64 (a1 + 1)) = j_ := ⟨_, rfl⟩
      replace H : (if 0 ≤ (ji5) then (if (ji5) < (l0.length : Int) then (some (Go.bits .or .i64 (wrap64 ((wrap64 (rd l0 a1)) * 256)) (wrap64 (rd l0 (ji5))))) else (none)) else (none)) = some r := by first | (rw [hji5] at H; exact H) | (simp only [hji5] at H ⊢; exact H)
      have hji5w : (IntKind.i64.wrap (a1 + 1)) = ji5 := (i64_w _).trans hji5
      by_cases c6 : 0 ≤ (ji5)
      · rw [if_pos c6] at H
        have c6b0 : decide (0 ≤ (ji5)) = true := decide_eq_true c6
        clear c6
        by_cases c7 : (ji5) < (l0.length : Int)
        · rw [if_pos c7] at H
          have c7b0 : decide ((ji5) < (l0.length : Int)) = true := decide_eq_true c7
          clear c7
          obtain rfl := Option.some.inj H
          have p408 : 0 ≤ (a1 : Int) := of_decide_eq_true (by first | (with_reducible assumption) | assumption)
          have q408 : a1 < (l0.length : Int) := of_decide_eq_true (by first | (with_reducible assumption) | assumption)
          obtain ⟨ad408, e408, hx408_0⟩ := Kd.at_int HR0.out a1 p408 q408
          cases e408
          replace p408 := eq_true p408
          replace q408 := eq_true q408
          have p409 : 0 ≤ ((ji5) : Int) := of_decide_eq_true (by first | (with_reducible assumption) | assumption)
          have q409 : (ji5) < (l0.length : Int) := of_decide_eq_true (by first | (with_reducible assumption) | assumption)
          obtain ⟨ad409, e409, hx409_0⟩ := Kd.at_int HR0.out (ji5) p409 q409
          obtain rfl : ad408 = ad409 := (by injection e409)
          replace p409 := eq_true p409
          replace q409 := eq_true q409
          go_enter Try.func99, Try.ntmps99
          go_wp2
          repeat (go_quiet (fail); try go_wp2)
          go_ret
          exact ⟨by first | rfl | (simp; done) | (simp only [← hji5] <;> (first | rfl | simp)) | (simp [*]; done), by repeat (first | exact Drawn0.refl _ | apply Drawn0.step)⟩
        · rw [if_neg c7] at H
          exact absurd H (by simp)
      · rw [if_neg c6] at H
        exact absurd H (by simp)
    · rw [if_neg c4] at H
      exact absurd H (by simp)
  · rw [if_neg c3] at H
    exact absurd H (by simp)

end Go.Proofs.Ytjfpkfophfelmaa.QFnEcho
