/- FnEcho: for every input the program's function answers what the reference's answers, as the law asks; no condition. -/
import Derived.Test.YtjfpkfophfelmaaRows
import Derived.Test.YtjfpkfophfelmaaQFnEchox8
import Derived.Test.YtjfpkfophfelmaaOpen
import Derived.Test.YtjfpkfophfelmaaSaysFnEcho
import Derived.Test.YtjfpkfophfelmaaPureFnEcho
import Derived.WalkKit
import Derived.ProofKit
import Derived.OpenShut
import Derived.ShutString
import Derived.ChangeOld
import Derived.Below
import Derived.SizedLaws
namespace Go.Proofs.Ytjfpkfophfelmaa.fnEcho
open Go.ChangeShapes Go.WideShapes Go.ChangeAt Go.RowKit Go.Proofs.YtjfpkfophfelmaaV.PrintWords Go.Proofs.Ytjfpkfophfelmaa.QFnEcho Go.Proofs.Ytjfpkfophfelmaa.Open Go.Proofs.Ytjfpkfophfelmaa.SaysFnEcho
open Go.ChangeMaps (open_string shut_string)
set_option linter.unusedVariables false
set_option linter.unusedSimpArgs false
theorem own : ownKnob Try.prog.godebug = none := by kernel_rfl
theorem laidOut : laidOutB Try.prog = true := by kernel_rfl
set_option maxRecDepth 100000 in
theorem lifted (os : Os) (started : os.Started) (H : Type) (enc : TypeId × Value → H) :
    ReturnsInHanded {} Try.checked os 7 .any (Rows.fnEchoSpec.pre6 enc Try.prog Try.f7 Rows.fnEchoRow.domain false) (Rows.fnEchoSpec.post enc Try.prog Try.f7 false true false false) := by
  refine returnsInHanded_of_change_sized (C := Try.checked) own started (by kernel_rfl) Try.func7
    (ChangeSpec.witness6 (enc := enc) (C := Try.checked) false ⟨#[], #[.slice none 0 0, .slice none 0 0], []⟩ 8 (by kernel_rfl) (by kernel_rfl) (by kernel_rfl) (by kernel_rfl)) ?_
  intro W base args ds gs before hval0 hW hcnd hsz0 _
  have hval : ∀ (j : Nat) t v, Try.f7.params[j]? = some t → args[j]? = some v → Value.okWide Try.prog W .any base t v := hval0
  have hW' := hW
  obtain ⟨p, q, hA0, hV, rfl, hfz, hnd⟩ := hW
  have hA : DataW.TrodAll enc Try.prog W 0 (fun _ => true) true Try.f7.params.toList args.toList ds p := hA0
  rw [Try.params7] at hA hval
  obtain ⟨v0, vs0, d0, ds0, q0, z0, hargs, rfl, rfl, h0, r0⟩ := trodAll_cons hA
  obtain ⟨v1, vs1, d1, ds1, q1, z1, rfl, rfl, rfl, h1, r1⟩ := trodAll_cons r0
  obtain ⟨rfl, rfl, rfl⟩ := trodAll_nil r1
  obtain rfl : args = #[v0, v1] := by cases args; simp_all
  obtain ⟨rfl, rfl⟩ := trodVars_none hV
  have l0 : ∀ x ∈ q0, x.block < W.heap.size := by obtain ⟨m, hm⟩ := h0; exact DataW.trod_lt m _ _ _ hm
  have s0 := h0
  have u0 := hval 0 25 v0 rfl rfl
  have l1 : ∀ x ∈ q1, x.block < W.heap.size := by obtain ⟨m, hm⟩ := h1; exact DataW.trod_lt m _ _ _ hm
  have s1 := h1
  have u1 := hval 1 25 v1 rfl rfl
  clear hA0 hval0 hsz0 hval
  obtain ⟨A0, c0, a0, rfl, n0, C0, g0⟩ := opens_row Try.underlying25 (opens_slice Try.underlying25 (by kernel_rfl) (opens_int Try.underlying5)) u0 h0
  obtain ⟨A1, c1, a1, rfl, n1, C1, g1⟩ := opens_row Try.underlying25 (opens_slice Try.underlying25 (by kernel_rfl) (opens_int Try.underlying5)) u1 h1
  obtain ⟨k, hk⟩ := Pure.FnEcho a0 a1 g0 g1
  refine (laws_FnEcho.calls k A0 c0 a0 A1 c1 a1 true W C0 n0 C1 n1 hk).mono fun e W' ⟨he, bel0⟩ => ?_
  have bel : Below W.heap.size W W' := bel0
  subst he
  exact ⟨_, rfl, _, _, _, [], _, [], hW', trodAll_mk1 (shut_bool Try.underlying4 _), (trodAll_cons_mk (Below.trod laidOut (by kernel_rfl) (of_decide_eq_true (by kernel_rfl)) s0 bel l0) (trodAll_cons_mk (Below.trod laidOut (by kernel_rfl) (of_decide_eq_true (by kernel_rfl)) s1 bel l1) trodAll_mk0)), rfl, bel.frame _, fun h => by cases h⟩
theorem over : Rows.fnEchoRow.holds Try.pinned (OpenSpec.ofChange Rows.fnEchoSpec) :=
  OpenClaim.holds_of_wide 7 Try.f7 rfl rfl rfl rfl rfl rfl rfl ⟨rfl, rfl, rfl, rfl, rfl⟩ rfl rfl rfl rfl rfl (by kernel_rfl) Try.func7 (by kernel_rfl)
    (of_decide_eq_true (by kernel_rfl)) (by unfold Func.isWrapper; first | (rw [if_pos (by decide +kernel)]; kernel_rfl) | (rw [if_neg (by decide +kernel)]; exact ⟨rfl, rfl⟩))
    (fun os started H enc _ => lifted os started H enc)
theorem proved : Rows.FnEchoSaid := over
#print axioms proved
end Go.Proofs.Ytjfpkfophfelmaa.fnEcho
namespace Go.Proofs.Ytjfpkfophfelmaa
theorem fnEcho_holds : Rows.FnEchoSaid := fnEcho.proved
end Go.Proofs.Ytjfpkfophfelmaa
