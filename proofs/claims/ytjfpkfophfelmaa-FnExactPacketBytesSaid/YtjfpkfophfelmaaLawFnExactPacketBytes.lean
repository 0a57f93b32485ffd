/- FnExactPacketBytes: for every input the program's function answers what the reference's answers, as the law asks; no condition. -/
import Derived.Test.YtjfpkfophfelmaaRows
import Derived.Test.YtjfpkfophfelmaaQFnExactPacketBytesx10
import Derived.Test.YtjfpkfophfelmaaOpen
import Derived.Test.YtjfpkfophfelmaaSaysFnExactPacketBytes
import Derived.Test.YtjfpkfophfelmaaPureFnExactPacketBytes
import Derived.WalkKit
import Derived.ProofKit
import Derived.OpenShut
import Derived.ShutString
import Derived.ChangeOld
import Derived.Below
import Derived.SizedLaws
namespace Go.Proofs.Ytjfpkfophfelmaa.fnExactPacketBytes
open Go.ChangeShapes Go.WideShapes Go.ChangeAt Go.RowKit Go.Proofs.YtjfpkfophfelmaaV.PrintWords Go.Proofs.Ytjfpkfophfelmaa.QFnExactPacketBytes Go.Proofs.Ytjfpkfophfelmaa.Open Go.Proofs.Ytjfpkfophfelmaa.SaysFnExactPacketBytes
open Go.ChangeMaps (open_string shut_string)
set_option linter.unusedVariables false
set_option linter.unusedSimpArgs false
theorem own : ownKnob Try.prog.godebug = none := by kernel_rfl
theorem laidOut : laidOutB Try.prog = true := by kernel_rfl
theorem p0 : Opens Try.prog 74 (Kd.pair (Kd.int .i64) (Kd.pair Kd.string (Kd.pair Kd.string (Kd.pair (Kd.int .i64) (Kd.pair (Kd.int .i64) (Kd.pair (Kd.int .i64) (Kd.pair (Kd.int .i64) (Kd.pair Kd.bool (Kd.pair Kd.bool (Kd.slice 5 (Kd.int .u8))))))))))) (fun x : (Int) × (ByteArray) × (ByteArray) × (Int) × (Int) × (Int) × (Int) × (Bool) × (Bool) × (List (Int)) => (Lit.int .i64 x.1).wf = true ∧ x.2.1.size ≤ maxLen ∧ x.2.2.1.size ≤ maxLen ∧ (Lit.int .i64 x.2.2.2.1).wf = true ∧ (Lit.int .i64 x.2.2.2.2.1).wf = true ∧ (Lit.int .i64 x.2.2.2.2.2.1).wf = true ∧ (Lit.int .i64 x.2.2.2.2.2.2.1).wf = true ∧ True ∧ True ∧ (x.2.2.2.2.2.2.2.2.2.length ≤ maxLen ∧ ∀ y0 ∈ x.2.2.2.2.2.2.2.2.2, (Lit.int .u8 y0).wf = true)) := opens_fields Try.underlying74 (by kernel_rfl) (opensF_cons (d := (Kd.int .i64)) (d' := (Kd.pair Kd.string (Kd.pair Kd.string (Kd.pair (Kd.int .i64) (Kd.pair (Kd.int .i64) (Kd.pair (Kd.int .i64) (Kd.pair (Kd.int .i64) (Kd.pair Kd.bool (Kd.pair Kd.bool (Kd.slice 5 (Kd.int .u8))))))))))) (ok := (fun (x : (Int)) => (Lit.int .i64 x).wf = true)) (ok' := (fun (x : (ByteArray) × (ByteArray) × (Int) × (Int) × (Int) × (Int) × (Bool) × (Bool) × (List (Int))) => x.1.size ≤ maxLen ∧ x.2.1.size ≤ maxLen ∧ (Lit.int .i64 x.2.2.1).wf = true ∧ (Lit.int .i64 x.2.2.2.1).wf = true ∧ (Lit.int .i64 x.2.2.2.2.1).wf = true ∧ (Lit.int .i64 x.2.2.2.2.2.1).wf = true ∧ True ∧ True ∧ (x.2.2.2.2.2.2.2.2.length ≤ maxLen ∧ ∀ y0 ∈ x.2.2.2.2.2.2.2.2, (Lit.int .u8 y0).wf = true))) rfl (by kernel_rfl) (opens_int Try.underlying3) (opensF_cons (d := Kd.string) (d' := (Kd.pair Kd.string (Kd.pair (Kd.int .i64) (Kd.pair (Kd.int .i64) (Kd.pair (Kd.int .i64) (Kd.pair (Kd.int .i64) (Kd.pair Kd.bool (Kd.pair Kd.bool (Kd.slice 5 (Kd.int .u8)))))))))) (ok := (fun (x : (ByteArray)) => x.size ≤ maxLen)) (ok' := (fun (x : (ByteArray) × (Int) × (Int) × (Int) × (Int) × (Bool) × (Bool) × (List (Int))) => x.1.size ≤ maxLen ∧ (Lit.int .i64 x.2.1).wf = true ∧ (Lit.int .i64 x.2.2.1).wf = true ∧ (Lit.int .i64 x.2.2.2.1).wf = true ∧ (Lit.int .i64 x.2.2.2.2.1).wf = true ∧ True ∧ True ∧ (x.2.2.2.2.2.2.2.length ≤ maxLen ∧ ∀ y0 ∈ x.2.2.2.2.2.2.2, (Lit.int .u8 y0).wf = true))) rfl (by kernel_rfl) (opens_string Try.underlying9) (opensF_cons (d := Kd.string) (d' := (Kd.pair (Kd.int .i64) (Kd.pair (Kd.int .i64) (Kd.pair (Kd.int .i64) (Kd.pair (Kd.int .i64) (Kd.pair Kd.bool (Kd.pair Kd.bool (Kd.slice 5 (Kd.int .u8))))))))) (ok := (fun (x : (ByteArray)) => x.size ≤ maxLen)) (ok' := (fun (x : (Int) × (Int) × (Int) × (Int) × (Bool) × (Bool) × (List (Int))) => (Lit.int .i64 x.1).wf = true ∧ (Lit.int .i64 x.2.1).wf = true ∧ (Lit.int .i64 x.2.2.1).wf = true ∧ (Lit.int .i64 x.2.2.2.1).wf = true ∧ True ∧ True ∧ (x.2.2.2.2.2.2.length ≤ maxLen ∧ ∀ y0 ∈ x.2.2.2.2.2.2, (Lit.int .u8 y0).wf = true))) rfl (by kernel_rfl) (opens_string Try.underlying9) (opensF_cons (d := (Kd.int .i64)) (d' := (Kd.pair (Kd.int .i64) (Kd.pair (Kd.int .i64) (Kd.pair (Kd.int .i64) (Kd.pair Kd.bool (Kd.pair Kd.bool (Kd.slice 5 (Kd.int .u8)))))))) (ok := (fun (x : (Int)) => (Lit.int .i64 x).wf = true)) (ok' := (fun (x : (Int) × (Int) × (Int) × (Bool) × (Bool) × (List (Int))) => (Lit.int .i64 x.1).wf = true ∧ (Lit.int .i64 x.2.1).wf = true ∧ (Lit.int .i64 x.2.2.1).wf = true ∧ True ∧ True ∧ (x.2.2.2.2.2.length ≤ maxLen ∧ ∀ y0 ∈ x.2.2.2.2.2, (Lit.int .u8 y0).wf = true))) rfl (by kernel_rfl) (opens_int Try.underlying3) (opensF_cons (d := (Kd.int .i64)) (d' := (Kd.pair (Kd.int .i64) (Kd.pair (Kd.int .i64) (Kd.pair Kd.bool (Kd.pair Kd.bool (Kd.slice 5 (Kd.int .u8))))))) (ok := (fun (x : (Int)) => (Lit.int .i64 x).wf = true)) (ok' := (fun (x : (Int) × (Int) × (Bool) × (Bool) × (List (Int))) => (Lit.int .i64 x.1).wf = true ∧ (Lit.int .i64 x.2.1).wf = true ∧ True ∧ True ∧ (x.2.2.2.2.length ≤ maxLen ∧ ∀ y0 ∈ x.2.2.2.2, (Lit.int .u8 y0).wf = true))) rfl (by kernel_rfl) (opens_int Try.underlying3) (opensF_cons (d := (Kd.int .i64)) (d' := (Kd.pair (Kd.int .i64) (Kd.pair Kd.bool (Kd.pair Kd.bool (Kd.slice 5 (Kd.int .u8)))))) (ok := (fun (x : (Int)) => (Lit.int .i64 x).wf = true)) (ok' := (fun (x : (Int) × (Bool) × (Bool) × (List (Int))) => (Lit.int .i64 x.1).wf = true ∧ True ∧ True ∧ (x.2.2.2.length ≤ maxLen ∧ ∀ y0 ∈ x.2.2.2, (Lit.int .u8 y0).wf = true))) rfl (by kernel_rfl) (opens_int Try.underlying3) (opensF_cons (d := (Kd.int .i64)) (d' := (Kd.pair Kd.bool (Kd.pair Kd.bool (Kd.slice 5 (Kd.int .u8))))) (ok := (fun (x : (Int)) => (Lit.int .i64 x).wf = true)) (ok' := (fun (x : (Bool) × (Bool) × (List (Int))) => True ∧ True ∧ (x.2.2.length ≤ maxLen ∧ ∀ y0 ∈ x.2.2, (Lit.int .u8 y0).wf = true))) rfl (by kernel_rfl) (opens_int Try.underlying3) (opensF_cons (d := Kd.bool) (d' := (Kd.pair Kd.bool (Kd.slice 5 (Kd.int .u8)))) (ok := (fun (x : (Bool)) => True)) (ok' := (fun (x : (Bool) × (List (Int))) => True ∧ (x.2.length ≤ maxLen ∧ ∀ y0 ∈ x.2, (Lit.int .u8 y0).wf = true))) rfl (by kernel_rfl) (opens_bool Try.underlying4) (opensF_cons (d := Kd.bool) (d' := (Kd.slice 5 (Kd.int .u8))) (ok := (fun (x : (Bool)) => True)) (ok' := (fun (x : (List (Int))) => (x.length ≤ maxLen ∧ ∀ y0 ∈ x, (Lit.int .u8 y0).wf = true))) rfl (by kernel_rfl) (opens_bool Try.underlying4) (opensF_last (d := (Kd.slice 5 (Kd.int .u8))) (ok := (fun (x : (List (Int))) => (x.length ≤ maxLen ∧ ∀ y0 ∈ x, (Lit.int .u8 y0).wf = true))) rfl (by kernel_rfl) (opens_slice Try.underlying25 (by kernel_rfl) (opens_int Try.underlying5))))))))))))
set_option maxRecDepth 100000 in
theorem lifted (os : Os) (started : os.Started) (H : Type) (enc : TypeId × Value → H) :
    ReturnsInHanded {} Try.checked os 9 .any (Rows.fnExactPacketBytesSpec.pre6 enc Try.prog Try.f9 Rows.fnExactPacketBytesRow.domain false) (Rows.fnExactPacketBytesSpec.post enc Try.prog Try.f9 false true false false) := by
  refine returnsInHanded_of_change_sized (C := Try.checked) own started (by kernel_rfl) Try.func9
    (ChangeSpec.witness6 (enc := enc) (C := Try.checked) false ⟨#[], #[.agg #[.int .i64 0, .string ByteArray.empty, .string ByteArray.empty, .int .i64 0, .int .i64 0, .int .i64 0, .int .i64 0, .bool false, .bool false, .slice none 0 0]], []⟩ 8 (by kernel_rfl) (by kernel_rfl) (by kernel_rfl) (by kernel_rfl)) ?_
  intro W base args ds gs before hval0 hW hcnd hsz0 _
  have hval : ∀ (j : Nat) t v, Try.f9.params[j]? = some t → args[j]? = some v → Value.okWide Try.prog W .any base t v := hval0
  have hW' := hW
  obtain ⟨p, q, hA0, hV, rfl, hfz, hnd⟩ := hW
  have hA : DataW.TrodAll enc Try.prog W 0 (fun _ => true) true Try.f9.params.toList args.toList ds p := hA0
  rw [Try.params9] at hA hval
  obtain ⟨v0, vs0, d0, ds0, q0, z0, hargs, rfl, rfl, h0, r0⟩ := trodAll_cons hA
  obtain ⟨rfl, rfl, rfl⟩ := trodAll_nil r0
  obtain rfl : args = #[v0] := by cases args; simp_all
  obtain ⟨rfl, rfl⟩ := trodVars_none hV
  have l0 : ∀ x ∈ q0, x.block < W.heap.size := by obtain ⟨m, hm⟩ := h0; exact DataW.trod_lt m _ _ _ hm
  have s0 := h0
  have u0 := hval 0 74 v0 rfl rfl
  clear hA0 hval0 hsz0 hval
  obtain ⟨cs0, x0, rfl, K0, g0⟩ := opens_agg Try.underlying74 p0 u0 h0
  obtain ⟨a0_0, a0_1, a0_2, a0_3, a0_4, a0_5, a0_6, a0_7, a0_8, a0_9⟩ := x0
  obtain ⟨_, _, rfl, rfl, ⟨_, _, rfl, rfl, ⟨_, _, rfl, rfl, ⟨_, _, rfl, rfl, ⟨_, _, rfl, rfl, ⟨_, _, rfl, rfl, ⟨_, _, rfl, rfl, ⟨_, _, rfl, rfl, ⟨_, _, rfl, rfl, ⟨A0_9, c0_9, rfl, n0_9, C0_9⟩⟩⟩⟩⟩⟩⟩⟩⟩⟩ := K0
  obtain ⟨g0_0, g0_1, g0_2, g0_3, g0_4, g0_5, g0_6, g0_7, g0_8, g0_9⟩ := g0
  obtain ⟨k, hk⟩ := Pure.FnExactPacketBytes a0_0 a0_1 a0_2 a0_3 a0_4 a0_5 a0_6 a0_7 a0_8 a0_9 g0_0 g0_1 g0_2 g0_3 g0_4 g0_5 g0_6 g0_7 g0_8 g0_9
  refine (laws_FnExactPacketBytes.calls k a0_0 a0_1 a0_2 a0_3 a0_4 a0_5 a0_6 a0_7 a0_8 A0_9 c0_9 a0_9 true W C0_9 n0_9 hk).mono fun e W' ⟨he, bel0⟩ => ?_
  have bel : Below W.heap.size W W' := bel0
  subst he
  exact ⟨_, rfl, _, _, _, [], _, [], hW', trodAll_mk1 (shut_bool Try.underlying4 _), (trodAll_cons_mk (Below.trod laidOut (by kernel_rfl) (of_decide_eq_true (by kernel_rfl)) s0 bel l0) trodAll_mk0), rfl, bel.frame _, fun h => by cases h⟩
theorem over : Rows.fnExactPacketBytesRow.holds Try.pinned (OpenSpec.ofChange Rows.fnExactPacketBytesSpec) :=
  OpenClaim.holds_of_wide 9 Try.f9 rfl rfl rfl rfl rfl rfl rfl ⟨rfl, rfl, rfl, rfl, rfl⟩ rfl rfl rfl rfl rfl (by kernel_rfl) Try.func9 (by kernel_rfl)
    (of_decide_eq_true (by kernel_rfl)) (by unfold Func.isWrapper; first | (rw [if_pos (by decide +kernel)]; kernel_rfl) | (rw [if_neg (by decide +kernel)]; exact ⟨rfl, rfl⟩))
    (fun os started H enc _ => lifted os started H enc)
theorem proved : Rows.FnExactPacketBytesSaid := over
#print axioms proved
end Go.Proofs.Ytjfpkfophfelmaa.fnExactPacketBytes
namespace Go.Proofs.Ytjfpkfophfelmaa
theorem fnExactPacketBytes_holds : Rows.FnExactPacketBytesSaid := fnExactPacketBytes.proved
end Go.Proofs.Ytjfpkfophfelmaa
