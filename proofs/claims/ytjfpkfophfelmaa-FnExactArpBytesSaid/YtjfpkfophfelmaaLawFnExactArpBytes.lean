/- FnExactArpBytes: for every input the program's function answers what the reference's answers, as the law asks; no condition. -/
import Derived.Test.YtjfpkfophfelmaaRows
import Derived.Test.YtjfpkfophfelmaaQFnExactArpBytesx2
import Derived.Test.YtjfpkfophfelmaaOpen
import Derived.Test.YtjfpkfophfelmaaSaysFnExactArpBytes
import Derived.Test.YtjfpkfophfelmaaPureFnExactArpBytes
import Derived.WalkKit
import Derived.ProofKit
import Derived.OpenShut
import Derived.ShutString
import Derived.ChangeOld
import Derived.Below
import Derived.SizedLaws
namespace Go.Proofs.Ytjfpkfophfelmaa.fnExactArpBytes
open Go.ChangeShapes Go.WideShapes Go.ChangeAt Go.RowKit Go.Proofs.YtjfpkfophfelmaaV.PrintWords Go.Proofs.Ytjfpkfophfelmaa.QFnExactArpBytes Go.Proofs.Ytjfpkfophfelmaa.Open Go.Proofs.Ytjfpkfophfelmaa.SaysFnExactArpBytes
open Go.ChangeMaps (open_string shut_string)
set_option linter.unusedVariables false
set_option linter.unusedSimpArgs false
theorem own : ownKnob Try.prog.godebug = none := by kernel_rfl
theorem laidOut : laidOutB Try.prog = true := by kernel_rfl
theorem p0 : Opens Try.prog 23 (Kd.pair Kd.bool (Kd.pair Kd.string (Kd.pair Kd.string (Kd.pair Kd.string Kd.string)))) (fun x : (Bool) × (ByteArray) × (ByteArray) × (ByteArray) × (ByteArray) => True ∧ x.2.1.size ≤ maxLen ∧ x.2.2.1.size ≤ maxLen ∧ x.2.2.2.1.size ≤ maxLen ∧ x.2.2.2.2.size ≤ maxLen) := opens_fields Try.underlying23 (by kernel_rfl) (opensF_cons (d := Kd.bool) (d' := (Kd.pair Kd.string (Kd.pair Kd.string (Kd.pair Kd.string Kd.string)))) (ok := (fun (x : (Bool)) => True)) (ok' := (fun (x : (ByteArray) × (ByteArray) × (ByteArray) × (ByteArray)) => x.1.size ≤ maxLen ∧ x.2.1.size ≤ maxLen ∧ x.2.2.1.size ≤ maxLen ∧ x.2.2.2.size ≤ maxLen)) rfl (by kernel_rfl) (opens_bool Try.underlying4) (opensF_cons (d := Kd.string) (d' := (Kd.pair Kd.string (Kd.pair Kd.string Kd.string))) (ok := (fun (x : (ByteArray)) => x.size ≤ maxLen)) (ok' := (fun (x : (ByteArray) × (ByteArray) × (ByteArray)) => x.1.size ≤ maxLen ∧ x.2.1.size ≤ maxLen ∧ x.2.2.size ≤ maxLen)) rfl (by kernel_rfl) (opens_string Try.underlying9) (opensF_cons (d := Kd.string) (d' := (Kd.pair Kd.string Kd.string)) (ok := (fun (x : (ByteArray)) => x.size ≤ maxLen)) (ok' := (fun (x : (ByteArray) × (ByteArray)) => x.1.size ≤ maxLen ∧ x.2.size ≤ maxLen)) rfl (by kernel_rfl) (opens_string Try.underlying9) (opensF_cons (d := Kd.string) (d' := Kd.string) (ok := (fun (x : (ByteArray)) => x.size ≤ maxLen)) (ok' := (fun (x : (ByteArray)) => x.size ≤ maxLen)) rfl (by kernel_rfl) (opens_string Try.underlying9) (opensF_last (d := Kd.string) (ok := (fun (x : (ByteArray)) => x.size ≤ maxLen)) rfl (by kernel_rfl) (opens_string Try.underlying9))))))
set_option maxRecDepth 100000 in
theorem lifted (os : Os) (started : os.Started) (H : Type) (enc : TypeId × Value → H) :
    ReturnsInHanded {} Try.checked os 3 .any (Rows.fnExactArpBytesSpec.pre6 enc Try.prog Try.f3 Rows.fnExactArpBytesRow.domain false) (Rows.fnExactArpBytesSpec.post enc Try.prog Try.f3 false true false false) := by
  refine returnsInHanded_of_change_sized (C := Try.checked) own started (by kernel_rfl) Try.func3
    (ChangeSpec.witness6 (enc := enc) (C := Try.checked) false ⟨#[], #[.agg #[.bool false, .string ByteArray.empty, .string ByteArray.empty, .string ByteArray.empty, .string ByteArray.empty]], []⟩ 8 (by kernel_rfl) (by kernel_rfl) (by kernel_rfl) (by kernel_rfl)) ?_
  intro W base args ds gs before hval0 hW hcnd hsz0 _
  have hval : ∀ (j : Nat) t v, Try.f3.params[j]? = some t → args[j]? = some v → Value.okWide Try.prog W .any base t v := hval0
  have hW' := hW
  obtain ⟨p, q, hA0, hV, rfl, hfz, hnd⟩ := hW
  have hA : DataW.TrodAll enc Try.prog W 0 (fun _ => true) true Try.f3.params.toList args.toList ds p := hA0
  rw [Try.params3] at hA hval
  obtain ⟨v0, vs0, d0, ds0, q0, z0, hargs, rfl, rfl, h0, r0⟩ := trodAll_cons hA
  obtain ⟨rfl, rfl, rfl⟩ := trodAll_nil r0
  obtain rfl : args = #[v0] := by cases args; simp_all
  obtain ⟨rfl, rfl⟩ := trodVars_none hV
  have l0 : ∀ x ∈ q0, x.block < W.heap.size := by obtain ⟨m, hm⟩ := h0; exact DataW.trod_lt m _ _ _ hm
  have s0 := h0
  have u0 := hval 0 23 v0 rfl rfl
  clear hA0 hval0 hsz0 hval
  obtain ⟨cs0, x0, rfl, K0, g0⟩ := opens_agg Try.underlying23 p0 u0 h0
  obtain ⟨a0_0, a0_1, a0_2, a0_3, a0_4⟩ := x0
  obtain ⟨_, _, rfl, rfl, ⟨_, _, rfl, rfl, ⟨_, _, rfl, rfl, ⟨_, _, rfl, rfl, rfl⟩⟩⟩⟩ := K0
  obtain ⟨g0_0, g0_1, g0_2, g0_3, g0_4⟩ := g0
  obtain ⟨k, hk⟩ := Pure.FnExactArpBytes a0_0 a0_1 a0_2 a0_3 a0_4 g0_0 g0_1 g0_2 g0_3 g0_4
  refine (laws_FnExactArpBytes.calls k a0_0 a0_1 a0_2 a0_3 a0_4 true W hk).mono fun e W' ⟨he, bel0⟩ => ?_
  have bel : Below W.heap.size W W' := bel0
  subst he
  exact ⟨_, rfl, _, _, _, [], _, [], hW', trodAll_mk1 (shut_bool Try.underlying4 _), (trodAll_cons_mk (Below.trod laidOut (by kernel_rfl) (of_decide_eq_true (by kernel_rfl)) s0 bel l0) trodAll_mk0), rfl, bel.frame _, fun h => by cases h⟩
theorem over : Rows.fnExactArpBytesRow.holds Try.pinned (OpenSpec.ofChange Rows.fnExactArpBytesSpec) :=
  OpenClaim.holds_of_wide 3 Try.f3 rfl rfl rfl rfl rfl rfl rfl ⟨rfl, rfl, rfl, rfl, rfl⟩ rfl rfl rfl rfl rfl (by kernel_rfl) Try.func3 (by kernel_rfl)
    (of_decide_eq_true (by kernel_rfl)) (by unfold Func.isWrapper; first | (rw [if_pos (by decide +kernel)]; kernel_rfl) | (rw [if_neg (by decide +kernel)]; exact ⟨rfl, rfl⟩))
    (fun os started H enc _ => lifted os started H enc)
theorem proved : Rows.FnExactArpBytesSaid := over
#print axioms proved
end Go.Proofs.Ytjfpkfophfelmaa.fnExactArpBytes
namespace Go.Proofs.Ytjfpkfophfelmaa
theorem fnExactArpBytes_holds : Rows.FnExactArpBytesSaid := fnExactArpBytes.proved
end Go.Proofs.Ytjfpkfophfelmaa
