/- FnExactDistances: for every input the program's function answers what the reference's answers, as the law asks; no condition. -/
import Derived.Test.YtildepkogbcdpaaRows
import Derived.Test.YtildepkogbcdpaaBOpen
import Derived.Test.YtildepkogbcdpaaSaysFnExactDistances
import Derived.Test.YtildepkogbcdpaaPureFnExactDistances
import Derived.WalkKit
import Derived.ProofKit
import Derived.OpenShut
import Derived.ShutString
import Derived.ChangeOld
import Derived.Below
import Derived.SizedLaws
namespace Go.Proofs.Ytildepkogbcdpaa.fnExactDistances
open Go Go.B Go.ChangeShapes Go.WideShapes Go.ChangeAt Go.RowKit Go.Proofs.Ytildepkogbcdpaa.B Go.Proofs.Ytildepkogbcdpaa.SaysFnExactDistances
open Go.ChangeMaps (open_string shut_string)
set_option linter.unusedVariables false
set_option linter.unusedSimpArgs false
abbrev LC := List (Cell env.T)
theorem own : ownKnob Try.prog.godebug = none := by kernel_rfl
theorem laidOut : laidOutB Try.prog = true := by kernel_rfl
set_option maxRecDepth 100000 in
theorem o195 : OpB env Try.prog 195 (env.cells 195) OK195 := opB_iso (E := env) (α := (Int × Int × Int × Bool)) (β := S195) (cf' := env.cells 195) (fun x : S195 => (⟨x.f0, x.f1, x.f2, x.f3⟩ : (Int × Int × Int × Bool))) (fun x => (⟨x.1, x.2.1, x.2.2.1, x.2.2.2⟩ : S195)) (fun _ => rfl) (fun _ => rfl) (opB_fields (E := env) (cf := fun (x : (Int × Int × Int × Bool)) => (([.s (.int .i64 x.1)] : LC) ++ (([.s (.int .i64 x.2.1)] : LC) ++ (([.s (.int .i64 x.2.2.1)] : LC) ++ ([.s (.bool x.2.2.2)] : LC))))) (ok := fun x => ((Lit.int .i64 x.1).wf = true ∧ (Lit.int .i64 x.2.1).wf = true ∧ (Lit.int .i64 x.2.2.1).wf = true ∧ True)) Try.underlying195 (fun _ => by kernel_rfl) (opBF_cons (E := env) (k := 1) (cf := (fun (x : Int) => ([.s (.int .i64 x)] : LC))) (cf' := (fun (x : Int × Int × Bool) => (([.s (.int .i64 x.1)] : LC) ++ (([.s (.int .i64 x.2.1)] : LC) ++ ([.s (.bool x.2.2)] : LC))))) (ok := (fun (x : Int) => (Lit.int .i64 x).wf = true)) (ok' := (fun (x : Int × Int × Bool) => (Lit.int .i64 x.1).wf = true ∧ (Lit.int .i64 x.2.1).wf = true ∧ True)) rfl (by kernel_rfl) (fun _ => rfl) (opB_int Try.underlying3) (opBF_cons (E := env) (k := 1) (cf := (fun (x : Int) => ([.s (.int .i64 x)] : LC))) (cf' := (fun (x : Int × Bool) => (([.s (.int .i64 x.1)] : LC) ++ ([.s (.bool x.2)] : LC)))) (ok := (fun (x : Int) => (Lit.int .i64 x).wf = true)) (ok' := (fun (x : Int × Bool) => (Lit.int .i64 x.1).wf = true ∧ True)) rfl (by kernel_rfl) (fun _ => rfl) (opB_int Try.underlying3) (opBF_cons (E := env) (k := 1) (cf := (fun (x : Int) => ([.s (.int .i64 x)] : LC))) (cf' := (fun (x : Bool) => ([.s (.bool x)] : LC))) (ok := (fun (x : Int) => (Lit.int .i64 x).wf = true)) (ok' := (fun (x : Bool) => True)) rfl (by kernel_rfl) (fun _ => rfl) (opB_int Try.underlying3) (opBF_last (E := env) (cf := (fun (x : Bool) => ([.s (.bool x)] : LC))) (ok := (fun (x : Bool) => True)) rfl (fun _ => by kernel_rfl) (opB_bool Try.underlying4))))))
set_option maxRecDepth 100000 in
theorem o225 : OpB env Try.prog 225 (env.cells 225) OK225 := opB_iso (E := env) (α := (Int × Int × Int)) (β := S225) (cf' := env.cells 225) (fun x : S225 => (⟨x.f0, x.f1, x.f2⟩ : (Int × Int × Int))) (fun x => (⟨x.1, x.2.1, x.2.2⟩ : S225)) (fun _ => rfl) (fun _ => rfl) (opB_fields (E := env) (cf := fun (x : (Int × Int × Int)) => (([.s (.int .i64 x.1)] : LC) ++ (([.s (.int .i64 x.2.1)] : LC) ++ ([.s (.int .i64 x.2.2)] : LC)))) (ok := fun x => ((Lit.int .i64 x.1).wf = true ∧ (Lit.int .i64 x.2.1).wf = true ∧ (Lit.int .i64 x.2.2).wf = true)) Try.underlying225 (fun _ => by kernel_rfl) (opBF_cons (E := env) (k := 1) (cf := (fun (x : Int) => ([.s (.int .i64 x)] : LC))) (cf' := (fun (x : Int × Int) => (([.s (.int .i64 x.1)] : LC) ++ ([.s (.int .i64 x.2)] : LC)))) (ok := (fun (x : Int) => (Lit.int .i64 x).wf = true)) (ok' := (fun (x : Int × Int) => (Lit.int .i64 x.1).wf = true ∧ (Lit.int .i64 x.2).wf = true)) rfl (by kernel_rfl) (fun _ => rfl) (opB_int Try.underlying3) (opBF_cons (E := env) (k := 1) (cf := (fun (x : Int) => ([.s (.int .i64 x)] : LC))) (cf' := (fun (x : Int) => ([.s (.int .i64 x)] : LC))) (ok := (fun (x : Int) => (Lit.int .i64 x).wf = true)) (ok' := (fun (x : Int) => (Lit.int .i64 x).wf = true)) rfl (by kernel_rfl) (fun _ => rfl) (opB_int Try.underlying3) (opBF_last (E := env) (cf := (fun (x : Int) => ([.s (.int .i64 x)] : LC))) (ok := (fun (x : Int) => (Lit.int .i64 x).wf = true)) rfl (fun _ => by kernel_rfl) (opB_int Try.underlying3)))))
set_option maxRecDepth 100000 in
theorem p0 : OpB env Try.prog 60 (fun (x : ((List S195) × (List (List S225)) × Int)) => (([.sl 195 x.1] : LC) ++ (([.sl 193 x.2.1] : LC) ++ ([.s (.int .i64 x.2.2)] : LC)))) (fun x => ((x.1.length ≤ maxLen ∧ ∀ y0 ∈ x.1, OK195 y0) ∧ (x.2.1.length ≤ maxLen ∧ ∀ y0 ∈ x.2.1, (y0.length ≤ maxLen ∧ ∀ y1 ∈ y0, OK225 y1)) ∧ (Lit.int .i64 x.2.2).wf = true)) := (opB_fields (E := env) (cf := fun (x : ((List S195) × (List (List S225)) × Int)) => (([.sl 195 x.1] : LC) ++ (([.sl 193 x.2.1] : LC) ++ ([.s (.int .i64 x.2.2)] : LC)))) (ok := fun x => ((x.1.length ≤ maxLen ∧ ∀ y0 ∈ x.1, OK195 y0) ∧ (x.2.1.length ≤ maxLen ∧ ∀ y0 ∈ x.2.1, (y0.length ≤ maxLen ∧ ∀ y1 ∈ y0, OK225 y1)) ∧ (Lit.int .i64 x.2.2).wf = true)) Try.underlying60 (fun _ => by kernel_rfl) (opBF_cons (E := env) (k := 1) (cf := (fun (x : (List S195)) => ([.sl 195 x] : LC))) (cf' := (fun (x : (List (List S225)) × Int) => (([.sl 193 x.1] : LC) ++ ([.s (.int .i64 x.2)] : LC)))) (ok := (fun (x : (List S195)) => (x.length ≤ maxLen ∧ ∀ y0 ∈ x, OK195 y0))) (ok' := (fun (x : (List (List S225)) × Int) => (x.1.length ≤ maxLen ∧ ∀ y0 ∈ x.1, (y0.length ≤ maxLen ∧ ∀ y1 ∈ y0, OK225 y1)) ∧ (Lit.int .i64 x.2).wf = true)) rfl (by kernel_rfl) (fun _ => rfl) (opB_slice (E := env) (e := 195) (ok := fun (z : S195) => OK195 z) Try.underlying57 (by kernel_rfl) (fun _ => rfl) o195) (opBF_cons (E := env) (k := 1) (cf := (fun (x : (List (List S225))) => ([.sl 193 x] : LC))) (cf' := (fun (x : Int) => ([.s (.int .i64 x)] : LC))) (ok := (fun (x : (List (List S225))) => (x.length ≤ maxLen ∧ ∀ y0 ∈ x, (y0.length ≤ maxLen ∧ ∀ y1 ∈ y0, OK225 y1)))) (ok' := (fun (x : Int) => (Lit.int .i64 x).wf = true)) rfl (by kernel_rfl) (fun _ => rfl) (opB_slice (E := env) (e := 193) (ok := fun (z : List S225) => (z.length ≤ maxLen ∧ ∀ y1 ∈ z, OK225 y1)) Try.underlying58 (by kernel_rfl) (fun _ => rfl) (opB_slice (E := env) (e := 225) (ok := fun (z : S225) => OK225 z) Try.underlying193 (by kernel_rfl) (fun _ => rfl) o225)) (opBF_last (E := env) (cf := (fun (x : Int) => ([.s (.int .i64 x)] : LC))) (ok := (fun (x : Int) => (Lit.int .i64 x).wf = true)) rfl (fun _ => by kernel_rfl) (opB_int Try.underlying3)))))
set_option maxRecDepth 100000 in
theorem lifted (os : Os) (started : os.Started) (H : Type) (enc : TypeId × Value → H) :
    ReturnsInHanded {} Try.checked os 13 .any (Rows.fnExactDistancesSpec.pre6 enc Try.prog Try.f13 Rows.fnExactDistancesRow.domain false) (Rows.fnExactDistancesSpec.post enc Try.prog Try.f13 false true false false) := by
  refine returnsInHanded_of_change_sized (C := Try.checked) own started (by kernel_rfl) Try.func13
    (ChangeSpec.witness6 (enc := enc) (C := Try.checked) false ⟨#[], #[.agg #[.slice none 0 0, .slice none 0 0, .int .i64 0]], []⟩ 8 (by kernel_rfl) (by kernel_rfl) (by kernel_rfl) (by kernel_rfl)) ?_
  intro W base args ds gs before hval0 hW hcnd hsz0 _
  have hval : ∀ (j : Nat) t v, Try.f13.params[j]? = some t → args[j]? = some v → Value.okWide Try.prog W .any base t v := hval0
  have hW' := hW
  obtain ⟨p, q, hA0, hV, rfl, hfz, hnd⟩ := hW
  have hA : DataW.TrodAll enc Try.prog W 0 (fun _ => true) true Try.f13.params.toList args.toList ds p := hA0
  rw [Try.params13] at hA hval
  obtain ⟨v0, vs0, d0, ds0, q0, z0, hargs, rfl, rfl, h0, r0⟩ := trodAll_cons hA
  obtain ⟨rfl, rfl, rfl⟩ := trodAll_nil r0
  obtain rfl : args = #[v0] := by cases args; simp_all
  obtain ⟨rfl, rfl⟩ := trodVars_none hV
  have l0 : ∀ x ∈ q0, x.block < W.heap.size := by obtain ⟨m, hm⟩ := h0; exact DataW.trod_lt m _ _ _ hm
  have s0 := h0
  have u0 := hval 0 60 v0 rfl rfl
  clear hA0 hval0 hsz0 hval
  obtain ⟨cs0, x0, rfl, K0, g0⟩ := opB_agg Try.underlying60 p0 u0 h0
  obtain ⟨a0_0, a0_1, a0_2⟩ := x0
  obtain ⟨g0_0, g0_1, g0_2⟩ := g0
  obtain ⟨k, hk⟩ := Pure.FnExactDistances a0_0 a0_1 a0_2 g0_0 g0_1 g0_2
  refine (call_plain (f13.says k a0_0 a0_1 a0_2 true hk) (vs := [_]) ⟨⟨cs0, rfl, K0⟩, trivial⟩).mono fun e W' ⟨he, bel⟩ => ?_
  subst he
  exact ⟨_, rfl, _, _, _, [], _, [], hW', trodAll_mk1 (shut_bool Try.underlying4 _), (trodAll_cons_mk (Below.trod laidOut (by kernel_rfl) (of_decide_eq_true (by kernel_rfl)) s0 bel l0) trodAll_mk0), rfl, bel.frame _, fun h => by cases h⟩
theorem over : Rows.fnExactDistancesRow.holds Try.pinned (OpenSpec.ofChange Rows.fnExactDistancesSpec) :=
  OpenClaim.holds_of_wide 13 Try.f13 rfl rfl rfl rfl rfl rfl rfl ⟨rfl, rfl, rfl, rfl, rfl⟩ rfl rfl rfl rfl rfl (by kernel_rfl) Try.func13 (by kernel_rfl)
    (of_decide_eq_true (by kernel_rfl)) (by unfold Func.isWrapper; first | (rw [if_pos (by decide +kernel)]; kernel_rfl) | (rw [if_neg (by decide +kernel)]; exact ⟨rfl, rfl⟩))
    (fun os started H enc _ => lifted os started H enc)
theorem proved : Rows.FnExactDistancesSaid := over
#print axioms proved
end Go.Proofs.Ytildepkogbcdpaa.fnExactDistances
namespace Go.Proofs.Ytildepkogbcdpaa
theorem fnExactDistances_holds : Rows.FnExactDistancesSaid := fnExactDistances.proved
end Go.Proofs.Ytildepkogbcdpaa
