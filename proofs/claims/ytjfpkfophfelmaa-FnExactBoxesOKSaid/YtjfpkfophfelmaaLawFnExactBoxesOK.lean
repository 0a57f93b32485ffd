/- FnExactBoxesOK: for every input the program's function answers what the reference's answers, as the law asks; no condition. -/
import Derived.Test.YtjfpkfophfelmaaRows
import Derived.Test.YtjfpkfophfelmaaQFnExactBoxesOKx7
import Derived.Test.YtjfpkfophfelmaaOpen
import Derived.Test.YtjfpkfophfelmaaSaysFnExactBoxesOK
import Derived.Test.YtjfpkfophfelmaaPureFnExactBoxesOK
import Derived.WalkKit
import Derived.ProofKit
import Derived.OpenShut
import Derived.ShutString
import Derived.ChangeOld
import Derived.Below
import Derived.SizedLaws
namespace Go.Proofs.Ytjfpkfophfelmaa.fnExactBoxesOK
open Go.ChangeShapes Go.WideShapes Go.ChangeAt Go.RowKit Go.Proofs.YtjfpkfophfelmaaV.PrintWords Go.Proofs.Ytjfpkfophfelmaa.QFnExactBoxesOK Go.Proofs.Ytjfpkfophfelmaa.Open Go.Proofs.Ytjfpkfophfelmaa.SaysFnExactBoxesOK
open Go.ChangeMaps (open_string shut_string)
set_option linter.unusedVariables false
set_option linter.unusedSimpArgs false
theorem own : ownKnob Try.prog.godebug = none := by kernel_rfl
theorem laidOut : laidOutB Try.prog = true := by kernel_rfl
theorem o170 : Opens Try.prog 170 k170 OK170 := opens_iso (fun x : S170 => (x.f0, x.f1, x.f2)) (fun x => ⟨x.1, x.2.1, x.2.2⟩) (fun _ => rfl) (opens_fields Try.underlying170 (by kernel_rfl) (opensF_cons (d := (Kd.int .i64)) (d' := (Kd.pair Kd.bool (Kd.slice 5 (Kd.int .u8)))) (ok := (fun (x : (Int)) => (Lit.int .i64 x).wf = true)) (ok' := (fun (x : (Bool) × (List (Int))) => True ∧ (x.2.length ≤ maxLen ∧ ∀ y0 ∈ x.2, (Lit.int .u8 y0).wf = true))) rfl (by kernel_rfl) (opens_int Try.underlying3) (opensF_cons (d := Kd.bool) (d' := (Kd.slice 5 (Kd.int .u8))) (ok := (fun (x : (Bool)) => True)) (ok' := (fun (x : (List (Int))) => (x.length ≤ maxLen ∧ ∀ y0 ∈ x, (Lit.int .u8 y0).wf = true))) rfl (by kernel_rfl) (opens_bool Try.underlying4) (opensF_last (d := (Kd.slice 5 (Kd.int .u8))) (ok := (fun (x : (List (Int))) => (x.length ≤ maxLen ∧ ∀ y0 ∈ x, (Lit.int .u8 y0).wf = true))) rfl (by kernel_rfl) (opens_slice Try.underlying25 (by kernel_rfl) (opens_int Try.underlying5))))))
theorem o137 : Opens Try.prog 137 k137 OK137 := opens_iso (fun x : S137 => (x.f0, x.f1, x.f2, x.f3, x.f4, x.f5)) (fun x => ⟨x.1, x.2.1, x.2.2.1, x.2.2.2.1, x.2.2.2.2.1, x.2.2.2.2.2⟩) (fun _ => rfl) (opens_fields Try.underlying137 (by kernel_rfl) (opensF_cons (d := Kd.string) (d' := (Kd.pair Kd.string (Kd.pair (Kd.int .i64) (Kd.pair (Kd.int .i64) (Kd.pair (Kd.int .i64) (Kd.slice 170 k170)))))) (ok := (fun (x : (ByteArray)) => x.size ≤ maxLen)) (ok' := (fun (x : (ByteArray) × (Int) × (Int) × (Int) × (List (S170))) => x.1.size ≤ maxLen ∧ (Lit.int .i64 x.2.1).wf = true ∧ (Lit.int .i64 x.2.2.1).wf = true ∧ (Lit.int .i64 x.2.2.2.1).wf = true ∧ (x.2.2.2.2.length ≤ maxLen ∧ ∀ y0 ∈ x.2.2.2.2, OK170 y0))) rfl (by kernel_rfl) (opens_string Try.underlying9) (opensF_cons (d := Kd.string) (d' := (Kd.pair (Kd.int .i64) (Kd.pair (Kd.int .i64) (Kd.pair (Kd.int .i64) (Kd.slice 170 k170))))) (ok := (fun (x : (ByteArray)) => x.size ≤ maxLen)) (ok' := (fun (x : (Int) × (Int) × (Int) × (List (S170))) => (Lit.int .i64 x.1).wf = true ∧ (Lit.int .i64 x.2.1).wf = true ∧ (Lit.int .i64 x.2.2.1).wf = true ∧ (x.2.2.2.length ≤ maxLen ∧ ∀ y0 ∈ x.2.2.2, OK170 y0))) rfl (by kernel_rfl) (opens_string Try.underlying9) (opensF_cons (d := (Kd.int .i64)) (d' := (Kd.pair (Kd.int .i64) (Kd.pair (Kd.int .i64) (Kd.slice 170 k170)))) (ok := (fun (x : (Int)) => (Lit.int .i64 x).wf = true)) (ok' := (fun (x : (Int) × (Int) × (List (S170))) => (Lit.int .i64 x.1).wf = true ∧ (Lit.int .i64 x.2.1).wf = true ∧ (x.2.2.length ≤ maxLen ∧ ∀ y0 ∈ x.2.2, OK170 y0))) rfl (by kernel_rfl) (opens_int Try.underlying3) (opensF_cons (d := (Kd.int .i64)) (d' := (Kd.pair (Kd.int .i64) (Kd.slice 170 k170))) (ok := (fun (x : (Int)) => (Lit.int .i64 x).wf = true)) (ok' := (fun (x : (Int) × (List (S170))) => (Lit.int .i64 x.1).wf = true ∧ (x.2.length ≤ maxLen ∧ ∀ y0 ∈ x.2, OK170 y0))) rfl (by kernel_rfl) (opens_int Try.underlying3) (opensF_cons (d := (Kd.int .i64)) (d' := (Kd.slice 170 k170)) (ok := (fun (x : (Int)) => (Lit.int .i64 x).wf = true)) (ok' := (fun (x : (List (S170))) => (x.length ≤ maxLen ∧ ∀ y0 ∈ x, OK170 y0))) rfl (by kernel_rfl) (opens_int Try.underlying3) (opensF_last (d := (Kd.slice 170 k170)) (ok := (fun (x : (List (S170))) => (x.length ≤ maxLen ∧ ∀ y0 ∈ x, OK170 y0))) rfl (by kernel_rfl) (opens_slice Try.underlying135 (by kernel_rfl) o170))))))))
set_option maxRecDepth 100000 in
theorem lifted (os : Os) (started : os.Started) (H : Type) (enc : TypeId × Value → H) :
    ReturnsInHanded {} Try.checked os 13 .any (Rows.fnExactBoxesOKSpec.pre6 enc Try.prog Try.f13 Rows.fnExactBoxesOKRow.domain false) (Rows.fnExactBoxesOKSpec.post enc Try.prog Try.f13 false true false false) := by
  refine returnsInHanded_of_change_sized (C := Try.checked) own started (by kernel_rfl) Try.func13
    (ChangeSpec.witness6 (enc := enc) (C := Try.checked) false ⟨#[], #[.slice none 0 0], []⟩ 8 (by kernel_rfl) (by kernel_rfl) (by kernel_rfl) (by kernel_rfl)) ?_
  intro W base args ds gs before hval0 hW hcnd hsz0 _
  have hval : ∀ (j : Nat) t v, Try.f13.params[j]? = some t → args[j]? = some v → Value.okWide Try.prog W .any base t v := hval0
  have hW' := hW
  obtain ⟨p, q, hA0, hV, rfl, hfz, hnd⟩ := hW
  have hA : DataW.TrodAll enc Try.prog W 0 (fun _ => true) true Try.f13.params.toList args.toList ds p := hA0
  rw [Try.params13] at hA hval
  obtain ⟨v0, vs0, d0, ds0, q0, z0, hargs, rfl, rfl, h0, r0⟩ := trodAll_cons hA
  obtain ⟨rfl, rfl, rfl⟩ := trodAll_nil r0
  obtain rfl : args = #[v0] := by cases args; simp_all
  obtain ⟨rfl, rfl⟩ := trodVars_none hV
  have l0 : ∀ x ∈ q0, x.block < W.heap.size := by obtain ⟨m, hm⟩ := h0; exact DataW.trod_lt m _ _ _ hm
  have s0 := h0
  have u0 := hval 0 87 v0 rfl rfl
  clear hA0 hval0 hsz0 hval
  obtain ⟨A0, c0, a0, rfl, n0, C0, g0⟩ := opens_row Try.underlying87 (opens_slice Try.underlying87 (by kernel_rfl) o137) u0 h0
  obtain ⟨k, hk⟩ := Pure.FnExactBoxesOK a0 g0
  refine (laws_FnExactBoxesOK.calls k A0 c0 a0 true W C0 n0 hk).mono fun e W' ⟨he, bel0⟩ => ?_
  have bel : Below W.heap.size W W' := bel0
  subst he
  exact ⟨_, rfl, _, _, _, [], _, [], hW', trodAll_mk1 (shut_bool Try.underlying4 _), (trodAll_cons_mk (Below.trod laidOut (by kernel_rfl) (of_decide_eq_true (by kernel_rfl)) s0 bel l0) trodAll_mk0), rfl, bel.frame _, fun h => by cases h⟩
theorem over : Rows.fnExactBoxesOKRow.holds Try.pinned (OpenSpec.ofChange Rows.fnExactBoxesOKSpec) :=
  OpenClaim.holds_of_wide 13 Try.f13 rfl rfl rfl rfl rfl rfl rfl ⟨rfl, rfl, rfl, rfl, rfl⟩ rfl rfl rfl rfl rfl (by kernel_rfl) Try.func13 (by kernel_rfl)
    (of_decide_eq_true (by kernel_rfl)) (by unfold Func.isWrapper; first | (rw [if_pos (by decide +kernel)]; kernel_rfl) | (rw [if_neg (by decide +kernel)]; exact ⟨rfl, rfl⟩))
    (fun os started H enc _ => lifted os started H enc)
theorem proved : Rows.FnExactBoxesOKSaid := over
#print axioms proved
end Go.Proofs.Ytjfpkfophfelmaa.fnExactBoxesOK
namespace Go.Proofs.Ytjfpkfophfelmaa
theorem fnExactBoxesOK_holds : Rows.FnExactBoxesOKSaid := fnExactBoxesOK.proved
end Go.Proofs.Ytjfpkfophfelmaa
