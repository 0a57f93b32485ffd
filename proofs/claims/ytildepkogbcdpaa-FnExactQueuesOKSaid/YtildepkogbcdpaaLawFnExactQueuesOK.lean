/- FnExactQueuesOK: for every input the program's function answers what the reference's answers, as the law asks; no condition. -/
import Derived.Test.YtildepkogbcdpaaRows
import Derived.Test.YtildepkogbcdpaaBOpen
import Derived.Test.YtildepkogbcdpaaSaysFnExactQueuesOK
import Derived.Test.YtildepkogbcdpaaPureFnExactQueuesOK
import Derived.WalkKit
import Derived.ProofKit
import Derived.OpenShut
import Derived.ShutString
import Derived.ChangeOld
import Derived.Below
import Derived.SizedLaws
namespace Go.Proofs.Ytildepkogbcdpaa.fnExactQueuesOK
open Go Go.B Go.ChangeShapes Go.WideShapes Go.ChangeAt Go.RowKit Go.Proofs.Ytildepkogbcdpaa.B Go.Proofs.Ytildepkogbcdpaa.SaysFnExactQueuesOK
open Go.ChangeMaps (open_string shut_string)
set_option linter.unusedVariables false
set_option linter.unusedSimpArgs false
abbrev LC := List (Cell env.T)
theorem own : ownKnob Try.prog.godebug = none := by kernel_rfl
theorem laidOut : laidOutB Try.prog = true := by kernel_rfl
set_option maxRecDepth 100000 in
theorem o242 : OpB env Try.prog 242 (env.cells 242) OK242 := opB_iso (E := env) (α := (Int × Int)) (β := S242) (cf' := env.cells 242) (fun x : S242 => (⟨x.f0, x.f1⟩ : (Int × Int))) (fun x => (⟨x.1, x.2⟩ : S242)) (fun _ => rfl) (fun _ => rfl) (opB_fields (E := env) (cf := fun (x : (Int × Int)) => (([.s (.int .i64 x.1)] : LC) ++ ([.s (.int .i64 x.2)] : LC))) (ok := fun x => ((Lit.int .i64 x.1).wf = true ∧ (Lit.int .i64 x.2).wf = true)) Try.underlying242 (fun _ => by kernel_rfl) (opBF_cons (E := env) (k := 1) (cf := (fun (x : Int) => ([.s (.int .i64 x)] : LC))) (cf' := (fun (x : Int) => ([.s (.int .i64 x)] : LC))) (ok := (fun (x : Int) => (Lit.int .i64 x).wf = true)) (ok' := (fun (x : Int) => (Lit.int .i64 x).wf = true)) rfl (by kernel_rfl) (fun _ => rfl) (opB_int Try.underlying3) (opBF_last (E := env) (cf := (fun (x : Int) => ([.s (.int .i64 x)] : LC))) (ok := (fun (x : Int) => (Lit.int .i64 x).wf = true)) rfl (fun _ => by kernel_rfl) (opB_int Try.underlying3))))
set_option maxRecDepth 100000 in
theorem o189 : OpB env Try.prog 189 (env.cells 189) OK189 := opB_iso (E := env) (α := (Int × Int × (List S242) × Int × Int × Int)) (β := S189) (cf' := env.cells 189) (fun x : S189 => (⟨x.f0, x.f1, x.f2, x.f3, x.f4, x.f5⟩ : (Int × Int × (List S242) × Int × Int × Int))) (fun x => (⟨x.1, x.2.1, x.2.2.1, x.2.2.2.1, x.2.2.2.2.1, x.2.2.2.2.2⟩ : S189)) (fun _ => rfl) (fun _ => rfl) (opB_fields (E := env) (cf := fun (x : (Int × Int × (List S242) × Int × Int × Int)) => (([.s (.int .i64 x.1)] : LC) ++ (([.s (.int .i64 x.2.1)] : LC) ++ (([.sl 242 x.2.2.1] : LC) ++ (([.s (.int .i64 x.2.2.2.1)] : LC) ++ (([.s (.int .i64 x.2.2.2.2.1)] : LC) ++ ([.s (.int .i64 x.2.2.2.2.2)] : LC))))))) (ok := fun x => ((Lit.int .i64 x.1).wf = true ∧ (Lit.int .i64 x.2.1).wf = true ∧ (x.2.2.1.length ≤ maxLen ∧ ∀ y0 ∈ x.2.2.1, OK242 y0) ∧ (Lit.int .i64 x.2.2.2.1).wf = true ∧ (Lit.int .i64 x.2.2.2.2.1).wf = true ∧ (Lit.int .i64 x.2.2.2.2.2).wf = true)) Try.underlying189 (fun _ => by kernel_rfl) (opBF_cons (E := env) (k := 1) (cf := (fun (x : Int) => ([.s (.int .i64 x)] : LC))) (cf' := (fun (x : Int × (List S242) × Int × Int × Int) => (([.s (.int .i64 x.1)] : LC) ++ (([.sl 242 x.2.1] : LC) ++ (([.s (.int .i64 x.2.2.1)] : LC) ++ (([.s (.int .i64 x.2.2.2.1)] : LC) ++ ([.s (.int .i64 x.2.2.2.2)] : LC))))))) (ok := (fun (x : Int) => (Lit.int .i64 x).wf = true)) (ok' := (fun (x : Int × (List S242) × Int × Int × Int) => (Lit.int .i64 x.1).wf = true ∧ (x.2.1.length ≤ maxLen ∧ ∀ y0 ∈ x.2.1, OK242 y0) ∧ (Lit.int .i64 x.2.2.1).wf = true ∧ (Lit.int .i64 x.2.2.2.1).wf = true ∧ (Lit.int .i64 x.2.2.2.2).wf = true)) rfl (by kernel_rfl) (fun _ => rfl) (opB_int Try.underlying3) (opBF_cons (E := env) (k := 1) (cf := (fun (x : Int) => ([.s (.int .i64 x)] : LC))) (cf' := (fun (x : (List S242) × Int × Int × Int) => (([.sl 242 x.1] : LC) ++ (([.s (.int .i64 x.2.1)] : LC) ++ (([.s (.int .i64 x.2.2.1)] : LC) ++ ([.s (.int .i64 x.2.2.2)] : LC)))))) (ok := (fun (x : Int) => (Lit.int .i64 x).wf = true)) (ok' := (fun (x : (List S242) × Int × Int × Int) => (x.1.length ≤ maxLen ∧ ∀ y0 ∈ x.1, OK242 y0) ∧ (Lit.int .i64 x.2.1).wf = true ∧ (Lit.int .i64 x.2.2.1).wf = true ∧ (Lit.int .i64 x.2.2.2).wf = true)) rfl (by kernel_rfl) (fun _ => rfl) (opB_int Try.underlying3) (opBF_cons (E := env) (k := 1) (cf := (fun (x : (List S242)) => ([.sl 242 x] : LC))) (cf' := (fun (x : Int × Int × Int) => (([.s (.int .i64 x.1)] : LC) ++ (([.s (.int .i64 x.2.1)] : LC) ++ ([.s (.int .i64 x.2.2)] : LC))))) (ok := (fun (x : (List S242)) => (x.length ≤ maxLen ∧ ∀ y0 ∈ x, OK242 y0))) (ok' := (fun (x : Int × Int × Int) => (Lit.int .i64 x.1).wf = true ∧ (Lit.int .i64 x.2.1).wf = true ∧ (Lit.int .i64 x.2.2).wf = true)) rfl (by kernel_rfl) (fun _ => rfl) (opB_slice (E := env) (e := 242) (ok := fun (z : S242) => OK242 z) Try.underlying187 (by kernel_rfl) (fun _ => rfl) o242) (opBF_cons (E := env) (k := 1) (cf := (fun (x : Int) => ([.s (.int .i64 x)] : LC))) (cf' := (fun (x : Int × Int) => (([.s (.int .i64 x.1)] : LC) ++ ([.s (.int .i64 x.2)] : LC)))) (ok := (fun (x : Int) => (Lit.int .i64 x).wf = true)) (ok' := (fun (x : Int × Int) => (Lit.int .i64 x.1).wf = true ∧ (Lit.int .i64 x.2).wf = true)) rfl (by kernel_rfl) (fun _ => rfl) (opB_int Try.underlying3) (opBF_cons (E := env) (k := 1) (cf := (fun (x : Int) => ([.s (.int .i64 x)] : LC))) (cf' := (fun (x : Int) => ([.s (.int .i64 x)] : LC))) (ok := (fun (x : Int) => (Lit.int .i64 x).wf = true)) (ok' := (fun (x : Int) => (Lit.int .i64 x).wf = true)) rfl (by kernel_rfl) (fun _ => rfl) (opB_int Try.underlying3) (opBF_last (E := env) (cf := (fun (x : Int) => ([.s (.int .i64 x)] : LC))) (ok := (fun (x : Int) => (Lit.int .i64 x).wf = true)) rfl (fun _ => by kernel_rfl) (opB_int Try.underlying3))))))))
set_option maxRecDepth 100000 in
theorem p0 : OpB env Try.prog 52 (fun (x : ((List S189) × (List Int) × Bool)) => (([.sl 189 x.1] : LC) ++ (([.sl 3 x.2.1] : LC) ++ ([.s (.bool x.2.2)] : LC)))) (fun x => ((x.1.length ≤ maxLen ∧ ∀ y0 ∈ x.1, OK189 y0) ∧ (x.2.1.length ≤ maxLen ∧ ∀ y0 ∈ x.2.1, (Lit.int .i64 y0).wf = true) ∧ True)) := (opB_fields (E := env) (cf := fun (x : ((List S189) × (List Int) × Bool)) => (([.sl 189 x.1] : LC) ++ (([.sl 3 x.2.1] : LC) ++ ([.s (.bool x.2.2)] : LC)))) (ok := fun x => ((x.1.length ≤ maxLen ∧ ∀ y0 ∈ x.1, OK189 y0) ∧ (x.2.1.length ≤ maxLen ∧ ∀ y0 ∈ x.2.1, (Lit.int .i64 y0).wf = true) ∧ True)) Try.underlying52 (fun _ => by kernel_rfl) (opBF_cons (E := env) (k := 1) (cf := (fun (x : (List S189)) => ([.sl 189 x] : LC))) (cf' := (fun (x : (List Int) × Bool) => (([.sl 3 x.1] : LC) ++ ([.s (.bool x.2)] : LC)))) (ok := (fun (x : (List S189)) => (x.length ≤ maxLen ∧ ∀ y0 ∈ x, OK189 y0))) (ok' := (fun (x : (List Int) × Bool) => (x.1.length ≤ maxLen ∧ ∀ y0 ∈ x.1, (Lit.int .i64 y0).wf = true) ∧ True)) rfl (by kernel_rfl) (fun _ => rfl) (opB_slice (E := env) (e := 189) (ok := fun (z : S189) => OK189 z) Try.underlying50 (by kernel_rfl) (fun _ => rfl) o189) (opBF_cons (E := env) (k := 1) (cf := (fun (x : (List Int)) => ([.sl 3 x] : LC))) (cf' := (fun (x : Bool) => ([.s (.bool x)] : LC))) (ok := (fun (x : (List Int)) => (x.length ≤ maxLen ∧ ∀ y0 ∈ x, (Lit.int .i64 y0).wf = true))) (ok' := (fun (x : Bool) => True)) rfl (by kernel_rfl) (fun _ => rfl) (opB_slice (E := env) (e := 3) (ok := fun (z : Int) => (Lit.int .i64 z).wf = true) Try.underlying33 (by kernel_rfl) (fun _ => rfl) (opB_int Try.underlying3)) (opBF_last (E := env) (cf := (fun (x : Bool) => ([.s (.bool x)] : LC))) (ok := (fun (x : Bool) => True)) rfl (fun _ => by kernel_rfl) (opB_bool Try.underlying4)))))
set_option maxRecDepth 100000 in
theorem lifted (os : Os) (started : os.Started) (H : Type) (enc : TypeId × Value → H) :
    ReturnsInHanded {} Try.checked os 6 .any (Rows.fnExactQueuesOKSpec.pre6 enc Try.prog Try.f6 Rows.fnExactQueuesOKRow.domain false) (Rows.fnExactQueuesOKSpec.post enc Try.prog Try.f6 false true false false) := by
  refine returnsInHanded_of_change_sized (C := Try.checked) own started (by kernel_rfl) Try.func6
    (ChangeSpec.witness6 (enc := enc) (C := Try.checked) false ⟨#[], #[.agg #[.slice none 0 0, .slice none 0 0, .bool false]], []⟩ 8 (by kernel_rfl) (by kernel_rfl) (by kernel_rfl) (by kernel_rfl)) ?_
  intro W base args ds gs before hval0 hW hcnd hsz0 _
  have hval : ∀ (j : Nat) t v, Try.f6.params[j]? = some t → args[j]? = some v → Value.okWide Try.prog W .any base t v := hval0
  have hW' := hW
  obtain ⟨p, q, hA0, hV, rfl, hfz, hnd⟩ := hW
  have hA : DataW.TrodAll enc Try.prog W 0 (fun _ => true) true Try.f6.params.toList args.toList ds p := hA0
  rw [Try.params6] at hA hval
  obtain ⟨v0, vs0, d0, ds0, q0, z0, hargs, rfl, rfl, h0, r0⟩ := trodAll_cons hA
  obtain ⟨rfl, rfl, rfl⟩ := trodAll_nil r0
  obtain rfl : args = #[v0] := by cases args; simp_all
  obtain ⟨rfl, rfl⟩ := trodVars_none hV
  have l0 : ∀ x ∈ q0, x.block < W.heap.size := by obtain ⟨m, hm⟩ := h0; exact DataW.trod_lt m _ _ _ hm
  have s0 := h0
  have u0 := hval 0 52 v0 rfl rfl
  clear hA0 hval0 hsz0 hval
  obtain ⟨cs0, x0, rfl, K0, g0⟩ := opB_agg Try.underlying52 p0 u0 h0
  obtain ⟨a0_0, a0_1, a0_2⟩ := x0
  obtain ⟨g0_0, g0_1, g0_2⟩ := g0
  obtain ⟨k, hk⟩ := Pure.FnExactQueuesOK a0_0 a0_1 a0_2 g0_0 g0_1 g0_2
  refine (call_plain (f6.says k a0_0 a0_1 a0_2 true hk) (vs := [_]) ⟨⟨cs0, rfl, K0⟩, trivial⟩).mono fun e W' ⟨he, bel⟩ => ?_
  subst he
  exact ⟨_, rfl, _, _, _, [], _, [], hW', trodAll_mk1 (shut_bool Try.underlying4 _), (trodAll_cons_mk (Below.trod laidOut (by kernel_rfl) (of_decide_eq_true (by kernel_rfl)) s0 bel l0) trodAll_mk0), rfl, bel.frame _, fun h => by cases h⟩
theorem over : Rows.fnExactQueuesOKRow.holds Try.pinned (OpenSpec.ofChange Rows.fnExactQueuesOKSpec) :=
  OpenClaim.holds_of_wide 6 Try.f6 rfl rfl rfl rfl rfl rfl rfl ⟨rfl, rfl, rfl, rfl, rfl⟩ rfl rfl rfl rfl rfl (by kernel_rfl) Try.func6 (by kernel_rfl)
    (of_decide_eq_true (by kernel_rfl)) (by unfold Func.isWrapper; first | (rw [if_pos (by decide +kernel)]; kernel_rfl) | (rw [if_neg (by decide +kernel)]; exact ⟨rfl, rfl⟩))
    (fun os started H enc _ => lifted os started H enc)
theorem proved : Rows.FnExactQueuesOKSaid := over
#print axioms proved
end Go.Proofs.Ytildepkogbcdpaa.fnExactQueuesOK
namespace Go.Proofs.Ytildepkogbcdpaa
theorem fnExactQueuesOK_holds : Rows.FnExactQueuesOKSaid := fnExactQueuesOK.proved
end Go.Proofs.Ytildepkogbcdpaa
