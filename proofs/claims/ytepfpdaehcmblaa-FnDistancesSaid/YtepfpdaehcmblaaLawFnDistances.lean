/- FnDistances: for every input the program's function answers what the reference's answers, as the law asks; no condition. -/
import Derived.Test.YtepfpdaehcmblaaRows
import Derived.Test.YtepfpdaehcmblaaBOpen
import Derived.Test.YtepfpdaehcmblaaSaysFnDistances
import Derived.Test.YtepfpdaehcmblaaPureFnDistances
import Derived.WalkKit
import Derived.ProofKit
import Derived.OpenShut
import Derived.ShutString
import Derived.ChangeOld
import Derived.Below
import Derived.SizedLaws
namespace Go.Proofs.Ytepfpdaehcmblaa.fnDistances
open Go Go.B Go.ChangeShapes Go.WideShapes Go.ChangeAt Go.RowKit Go.Proofs.Ytepfpdaehcmblaa.B Go.Proofs.Ytepfpdaehcmblaa.SaysFnDistances
open Go.ChangeMaps (open_string shut_string)
set_option linter.unusedVariables false
set_option linter.unusedSimpArgs false
abbrev LC := List (Cell env.T)
theorem own : ownKnob Try.prog.godebug = none := by kernel_rfl
theorem laidOut : laidOutB Try.prog = true := by kernel_rfl
set_option maxRecDepth 100000 in
theorem lifted (os : Os) (started : os.Started) (H : Type) (enc : TypeId × Value → H) :
    ReturnsInHanded {} Try.checked os 3 .any (Rows.fnDistancesSpec.pre6 enc Try.prog Try.f3 Rows.fnDistancesRow.domain false) (Rows.fnDistancesSpec.post enc Try.prog Try.f3 false true false false) := by
  refine returnsInHanded_of_change_sized (C := Try.checked) own started (by kernel_rfl) Try.func3
    (ChangeSpec.witness6 (enc := enc) (C := Try.checked) false ⟨#[], #[.slice none 0 0], []⟩ 8 (by kernel_rfl) (by kernel_rfl) (by kernel_rfl) (by kernel_rfl)) ?_
  intro W base args ds gs before hval0 hW hcnd hsz0 _
  have hval : ∀ (j : Nat) t v, Try.f3.params[j]? = some t → args[j]? = some v → Value.okWide Try.prog W .any base t v := hval0
  have hW' := hW
  obtain ⟨p, q, hA0, hV, rfl, hfz, hnd⟩ := hW
  have hA : DataW.TrodAll enc Try.prog W 0 (fun _ => true) true Try.f3.params.toList args.toList ds p := hA0
  rw [Try.params3] at hA hval
  obtain ⟨v0, vs0, d0, ds0, q0, z0, hargs, rfl, rfl, h0, r0⟩ := trodAll_cons hA
  obtain ⟨rfl, rfl, rfl⟩ := trodAll_nil r0
  obtain rfl : args = #[v0] := by cases args; simp_all
  obtain ⟨rfl, rfl⟩ := trodVars_none hV
  have l0 : ∀ x ∈ q0, x.block < W.heap.size := by obtain ⟨m, hm⟩ := h0; exact DataW.trod_lt m _ _ _ hm
  have s0 := h0
  have u0 := hval 0 22 v0 rfl rfl
  clear hA0 hval0 hsz0 hval
  obtain ⟨a0, K0, g0⟩ := opB_row Try.underlying22 (opB_slice (E := env) (e := 5) (ok := fun (z : Int) => (Lit.int .u8 z).wf = true) Try.underlying22 (by kernel_rfl) (fun _ => rfl) (opB_int Try.underlying5)) u0 h0
  obtain ⟨k, hk⟩ := Pure.FnDistances a0 g0
  refine (call_plain (f3.says k a0 true hk) (vs := [_]) ⟨K0, trivial⟩).mono fun e W' ⟨he, bel⟩ => ?_
  subst he
  exact ⟨_, rfl, _, _, _, [], _, [], hW', trodAll_mk1 (shut_bool Try.underlying4 _), (trodAll_cons_mk (Below.trod laidOut (by kernel_rfl) (of_decide_eq_true (by kernel_rfl)) s0 bel l0) trodAll_mk0), rfl, bel.frame _, fun h => by cases h⟩
theorem over : Rows.fnDistancesRow.holds Try.pinned (OpenSpec.ofChange Rows.fnDistancesSpec) :=
  OpenClaim.holds_of_wide 3 Try.f3 rfl rfl rfl rfl rfl rfl rfl ⟨rfl, rfl, rfl, rfl, rfl⟩ rfl rfl rfl rfl rfl (by kernel_rfl) Try.func3 (by kernel_rfl)
    (of_decide_eq_true (by kernel_rfl)) (by unfold Func.isWrapper; first | (rw [if_pos (by decide +kernel)]; kernel_rfl) | (rw [if_neg (by decide +kernel)]; exact ⟨rfl, rfl⟩))
    (fun os started H enc _ => lifted os started H enc)
theorem proved : Rows.FnDistancesSaid := over
#print axioms proved
end Go.Proofs.Ytepfpdaehcmblaa.fnDistances
namespace Go.Proofs.Ytepfpdaehcmblaa
theorem fnDistances_holds : Rows.FnDistancesSaid := fnDistances.proved
end Go.Proofs.Ytepfpdaehcmblaa
