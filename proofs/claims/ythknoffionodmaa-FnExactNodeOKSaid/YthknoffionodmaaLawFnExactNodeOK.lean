/- FnExactNodeOK: for every input the program's function answers what the reference's answers, as the law asks; no condition. -/
import Derived.Test.YthknoffionodmaaRows
import Derived.Test.YthknoffionodmaaQFnExactNodeOKx19
import Derived.Test.YthknoffionodmaaOpenRec
import Derived.Test.YthknoffionodmaaSaysFnExactNodeOK
import Derived.Test.YthknoffionodmaaPureFnExactNodeOK
import Derived.WalkKit
import Derived.ProofKit
import Derived.OpenShut
import Derived.ShutString
import Derived.ChangeOld
import Derived.Below
import Derived.SizedLaws
namespace Go.Proofs.Ythknoffionodmaa.fnExactNodeOK
open Go.ChangeShapes Go.WideShapes Go.ChangeAt Go.RowKit Go.Proofs.YthknoffionodmaaV.PrintWords Go.Proofs.Ythknoffionodmaa.QFnExactNodeOK Go.Proofs.Ythknoffionodmaa.Open Go.Proofs.Ythknoffionodmaa.SaysFnExactNodeOK
open Go.ChangeMaps (open_string shut_string)
set_option linter.unusedVariables false
set_option linter.unusedSimpArgs false
theorem own : ownKnob Try.prog.godebug = none := by kernel_rfl
theorem laidOut : laidOutB Try.prog = true := by kernel_rfl
theorem o85 : Opens Try.prog 85 k85 OK85 := of_to (fun m => by
  induction m with
  | zero => exact opensTo_zero Try.underlying85
  | succ m ih =>
    refine opensTo_map (fun (x : (ByteArray) × (Bool) × (Int) × (Int) × (List (S85))) => (⟨x.1, x.2.1, x.2.2.1, x.2.2.2.1, x.2.2.2.2⟩ : S85)) (fun w x cs h => ?_) (fun x h => OK85.mk h) (opensTo_fields Try.underlying85 (by kernel_rfl) (opensFTo_cons (d := Kd.string) (d' := (Kd.pair Kd.bool (Kd.pair (Kd.int .i64) (Kd.pair (Kd.int .i64) (Kd.slice 85 k85))))) (ok := (fun (x : (ByteArray)) => x.size ≤ maxLen)) (ok' := (fun (x : (Bool) × (Int) × (Int) × (List (S85))) => True ∧ (Lit.int .i64 x.2.1).wf = true ∧ (Lit.int .i64 x.2.2.1).wf = true ∧ (x.2.2.2.length ≤ maxLen ∧ ∀ y0 ∈ x.2.2.2, OK85 y0))) rfl (by kernel_rfl) (to_of (opens_string Try.underlying9)) (opensFTo_cons (d := Kd.bool) (d' := (Kd.pair (Kd.int .i64) (Kd.pair (Kd.int .i64) (Kd.slice 85 k85)))) (ok := (fun (x : (Bool)) => True)) (ok' := (fun (x : (Int) × (Int) × (List (S85))) => (Lit.int .i64 x.1).wf = true ∧ (Lit.int .i64 x.2.1).wf = true ∧ (x.2.2.length ≤ maxLen ∧ ∀ y0 ∈ x.2.2, OK85 y0))) rfl (by kernel_rfl) (to_of (opens_bool Try.underlying4)) (opensFTo_cons (d := (Kd.int .i64)) (d' := (Kd.pair (Kd.int .i64) (Kd.slice 85 k85))) (ok := (fun (x : (Int)) => (Lit.int .i64 x).wf = true)) (ok' := (fun (x : (Int) × (List (S85))) => (Lit.int .i64 x.1).wf = true ∧ (x.2.length ≤ maxLen ∧ ∀ y0 ∈ x.2, OK85 y0))) rfl (by kernel_rfl) (to_of (opens_int Try.underlying3)) (opensFTo_cons (d := (Kd.int .i64)) (d' := (Kd.slice 85 k85)) (ok := (fun (x : (Int)) => (Lit.int .i64 x).wf = true)) (ok' := (fun (x : (List (S85))) => (x.length ≤ maxLen ∧ ∀ y0 ∈ x, OK85 y0))) rfl (by kernel_rfl) (to_of (opens_int Try.underlying3)) (opensFTo_last (d := (Kd.slice 85 k85)) (ok := (fun (x : (List (S85))) => (x.length ≤ maxLen ∧ ∀ y0 ∈ x, OK85 y0))) rfl (by kernel_rfl) (opensTo_slice Try.underlying83 (by kernel_rfl) ih)))))))
    obtain ⟨x0, x1, x2, x3, x4⟩ := x
    obtain ⟨_, _, rfl, rfl, ⟨_, _, rfl, rfl, ⟨_, _, rfl, rfl, ⟨_, _, rfl, rfl, ⟨A_, c_, rfl, l_, g_⟩⟩⟩⟩⟩ := h
    exact k85_mk w ⟨x0, x1, x2, x3, x4⟩ l_ g_)
theorem p0 : Opens Try.prog 117 (Kd.pair k85 (Kd.pair k85 (Kd.pair (Kd.slice 9 Kd.string) (Kd.slice 3 (Kd.int .i64))))) (fun x : (S85) × (S85) × (List (ByteArray)) × (List (Int)) => OK85 x.1 ∧ OK85 x.2.1 ∧ (x.2.2.1.length ≤ maxLen ∧ ∀ y0 ∈ x.2.2.1, y0.size ≤ maxLen) ∧ (x.2.2.2.length ≤ maxLen ∧ ∀ y0 ∈ x.2.2.2, (Lit.int .i64 y0).wf = true)) := opens_fields Try.underlying117 (by kernel_rfl) (opensF_cons (d := k85) (d' := (Kd.pair k85 (Kd.pair (Kd.slice 9 Kd.string) (Kd.slice 3 (Kd.int .i64))))) (ok := (fun (x : (S85)) => OK85 x)) (ok' := (fun (x : (S85) × (List (ByteArray)) × (List (Int))) => OK85 x.1 ∧ (x.2.1.length ≤ maxLen ∧ ∀ y0 ∈ x.2.1, y0.size ≤ maxLen) ∧ (x.2.2.length ≤ maxLen ∧ ∀ y0 ∈ x.2.2, (Lit.int .i64 y0).wf = true))) rfl (by kernel_rfl) o85 (opensF_cons (d := k85) (d' := (Kd.pair (Kd.slice 9 Kd.string) (Kd.slice 3 (Kd.int .i64)))) (ok := (fun (x : (S85)) => OK85 x)) (ok' := (fun (x : (List (ByteArray)) × (List (Int))) => (x.1.length ≤ maxLen ∧ ∀ y0 ∈ x.1, y0.size ≤ maxLen) ∧ (x.2.length ≤ maxLen ∧ ∀ y0 ∈ x.2, (Lit.int .i64 y0).wf = true))) rfl (by kernel_rfl) o85 (opensF_cons (d := (Kd.slice 9 Kd.string)) (d' := (Kd.slice 3 (Kd.int .i64))) (ok := (fun (x : (List (ByteArray))) => (x.length ≤ maxLen ∧ ∀ y0 ∈ x, y0.size ≤ maxLen))) (ok' := (fun (x : (List (Int))) => (x.length ≤ maxLen ∧ ∀ y0 ∈ x, (Lit.int .i64 y0).wf = true))) rfl (by kernel_rfl) (opens_slice Try.underlying100 (by kernel_rfl) (opens_string Try.underlying9)) (opensF_last (d := (Kd.slice 3 (Kd.int .i64))) (ok := (fun (x : (List (Int))) => (x.length ≤ maxLen ∧ ∀ y0 ∈ x, (Lit.int .i64 y0).wf = true))) rfl (by kernel_rfl) (opens_slice Try.underlying23 (by kernel_rfl) (opens_int Try.underlying3))))))
set_option maxRecDepth 100000 in
theorem lifted (os : Os) (started : os.Started) (H : Type) (enc : TypeId × Value → H) :
    ReturnsInHanded {} Try.checked os 14 .any (Rows.fnExactNodeOKSpec.pre6 enc Try.prog Try.f14 Rows.fnExactNodeOKRow.domain false) (Rows.fnExactNodeOKSpec.post enc Try.prog Try.f14 false true false false) := by
  refine returnsInHanded_of_change_sized (C := Try.checked) own started (by kernel_rfl) Try.func14
    (ChangeSpec.witness6 (enc := enc) (C := Try.checked) false ⟨#[], #[.agg #[.string ByteArray.empty, .bool false, .int .i64 0, .int .i64 0, .slice none 0 0, .string ByteArray.empty, .bool false, .int .i64 0, .int .i64 0, .slice none 0 0, .slice none 0 0, .slice none 0 0]], []⟩ 8 (by kernel_rfl) (by kernel_rfl) (by kernel_rfl) (by kernel_rfl)) ?_
  intro W base args ds gs before hval0 hW hcnd hsz0 _
  have hval : ∀ (j : Nat) t v, Try.f14.params[j]? = some t → args[j]? = some v → Value.okWide Try.prog W .any base t v := hval0
  have hW' := hW
  obtain ⟨p, q, hA0, hV, rfl, hfz, hnd⟩ := hW
  have hA : DataW.TrodAll enc Try.prog W 0 (fun _ => true) true Try.f14.params.toList args.toList ds p := hA0
  rw [Try.params14] at hA hval
  obtain ⟨v0, vs0, d0, ds0, q0, z0, hargs, rfl, rfl, h0, r0⟩ := trodAll_cons hA
  obtain ⟨rfl, rfl, rfl⟩ := trodAll_nil r0
  obtain rfl : args = #[v0] := by cases args; simp_all
  obtain ⟨rfl, rfl⟩ := trodVars_none hV
  have l0 : ∀ x ∈ q0, x.block < W.heap.size := by obtain ⟨m, hm⟩ := h0; exact DataW.trod_lt m _ _ _ hm
  have s0 := h0
  have u0 := hval 0 117 v0 rfl rfl
  clear hA0 hval0 hsz0 hval
  obtain ⟨cs0, x0, rfl, K0, g0⟩ := opens_agg Try.underlying117 p0 u0 h0
  obtain ⟨a0_0, a0_1, a0_2, a0_3⟩ := x0
  obtain ⟨q0_, q1_, hq_, K1_, ⟨q2_, q3_, hq2_, K2_, ⟨_, _, rfl, ⟨A0_2, c0_2, rfl, n0_2, C0_2⟩, ⟨A0_3, c0_3, rfl, n0_3, C0_3⟩⟩⟩⟩ := K0
  obtain ⟨A0_0, c0_0, rfl, n0_0, C0_0⟩ := k85_open K1_
  obtain ⟨A0_1, c0_1, rfl, n0_1, C0_1⟩ := k85_open K2_
  subst hq2_
  subst hq_
  obtain ⟨g0_0, g0_1, g0_2, g0_3⟩ := g0
  obtain ⟨k, hk⟩ := Pure.FnExactNodeOK a0_0 a0_1 a0_2 a0_3 g0_0 g0_1 g0_2 g0_3
  refine (laws_FnExactNodeOK.calls k a0_0.f0 a0_0.f1 a0_0.f2 a0_0.f3 A0_0 c0_0 a0_0.f4 a0_1.f0 a0_1.f1 a0_1.f2 a0_1.f3 A0_1 c0_1 a0_1.f4 A0_2 c0_2 a0_2 A0_3 c0_3 a0_3 true W C0_0 n0_0 C0_1 n0_1 C0_2 n0_2 C0_3 n0_3 hk).mono fun e W' ⟨he, bel0⟩ => ?_
  have bel : Below W.heap.size W W' := bel0
  subst he
  exact ⟨_, rfl, _, _, _, [], _, [], hW', trodAll_mk1 (shut_bool Try.underlying4 _), (trodAll_cons_mk (Below.trod laidOut (by kernel_rfl) (of_decide_eq_true (by kernel_rfl)) s0 bel l0) trodAll_mk0), rfl, bel.frame _, fun h => by cases h⟩
theorem over : Rows.fnExactNodeOKRow.holds Try.pinned (OpenSpec.ofChange Rows.fnExactNodeOKSpec) :=
  OpenClaim.holds_of_wide 14 Try.f14 rfl rfl rfl rfl rfl rfl rfl ⟨rfl, rfl, rfl, rfl, rfl⟩ rfl rfl rfl rfl rfl (by kernel_rfl) Try.func14 (by kernel_rfl)
    (of_decide_eq_true (by kernel_rfl)) (by unfold Func.isWrapper; first | (rw [if_pos (by decide +kernel)]; kernel_rfl) | (rw [if_neg (by decide +kernel)]; exact ⟨rfl, rfl⟩))
    (fun os started H enc _ => lifted os started H enc)
theorem proved : Rows.FnExactNodeOKSaid := over
#print axioms proved
end Go.Proofs.Ythknoffionodmaa.fnExactNodeOK
namespace Go.Proofs.Ythknoffionodmaa
theorem fnExactNodeOK_holds : Rows.FnExactNodeOKSaid := fnExactNodeOK.proved
end Go.Proofs.Ythknoffionodmaa
