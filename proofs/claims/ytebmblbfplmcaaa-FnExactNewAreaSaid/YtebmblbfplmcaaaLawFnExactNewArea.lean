/- FnExactNewArea: for every input the program's function answers what the reference's answers, as the law asks; no condition. -/
import Derived.Test.YtebmblbfplmcaaaRows
import Derived.Test.YtebmblbfplmcaaaBOpen
import Derived.Test.YtebmblbfplmcaaaSaysFnExactNewArea
import Derived.Test.YtebmblbfplmcaaaPureFnExactNewArea
import Derived.WalkKit
import Derived.ProofKit
import Derived.OpenShut
import Derived.ShutString
import Derived.ChangeOld
import Derived.Below
import Derived.SizedLaws
namespace Go.Proofs.Ytebmblbfplmcaaa.fnExactNewArea
open Go Go.B Go.ChangeShapes Go.WideShapes Go.ChangeAt Go.RowKit Go.Proofs.Ytebmblbfplmcaaa.B Go.Proofs.Ytebmblbfplmcaaa.SaysFnExactNewArea
open Go.ChangeMaps (open_string shut_string)
set_option linter.unusedVariables false
set_option linter.unusedSimpArgs false
abbrev LC := List (Cell env.T)
theorem own : ownKnob Try.prog.godebug = none := by kernel_rfl
theorem laidOut : laidOutB Try.prog = true := by kernel_rfl
set_option maxRecDepth 100000 in
theorem o100 : OpB env Try.prog 100 (env.cells 100) OK100 := opB_iso (E := env) (α := (Int × Int × Int × Bool)) (β := S100) (cf' := env.cells 100) (fun x : S100 => (⟨x.f0, x.f1, x.f2, x.f3⟩ : (Int × Int × Int × Bool))) (fun x => (⟨x.1, x.2.1, x.2.2.1, x.2.2.2⟩ : S100)) (fun _ => rfl) (fun _ => rfl) (opB_fields (E := env) (cf := fun (x : (Int × Int × Int × Bool)) => (([.s (.int .i64 x.1)] : LC) ++ (([.s (.int .i64 x.2.1)] : LC) ++ (([.s (.int .i64 x.2.2.1)] : LC) ++ ([.s (.bool x.2.2.2)] : LC))))) (ok := fun x => ((Lit.int .i64 x.1).wf = true ∧ (Lit.int .i64 x.2.1).wf = true ∧ (Lit.int .i64 x.2.2.1).wf = true ∧ True)) Try.underlying100 (fun _ => by kernel_rfl) (opBF_cons (E := env) (k := 1) (cf := (fun (x : Int) => ([.s (.int .i64 x)] : LC))) (cf' := (fun (x : Int × Int × Bool) => (([.s (.int .i64 x.1)] : LC) ++ (([.s (.int .i64 x.2.1)] : LC) ++ ([.s (.bool x.2.2)] : LC))))) (ok := (fun (x : Int) => (Lit.int .i64 x).wf = true)) (ok' := (fun (x : Int × Int × Bool) => (Lit.int .i64 x.1).wf = true ∧ (Lit.int .i64 x.2.1).wf = true ∧ True)) rfl (by kernel_rfl) (fun _ => rfl) (opB_int Try.underlying3) (opBF_cons (E := env) (k := 1) (cf := (fun (x : Int) => ([.s (.int .i64 x)] : LC))) (cf' := (fun (x : Int × Bool) => (([.s (.int .i64 x.1)] : LC) ++ ([.s (.bool x.2)] : LC)))) (ok := (fun (x : Int) => (Lit.int .i64 x).wf = true)) (ok' := (fun (x : Int × Bool) => (Lit.int .i64 x.1).wf = true ∧ True)) rfl (by kernel_rfl) (fun _ => rfl) (opB_int Try.underlying3) (opBF_cons (E := env) (k := 1) (cf := (fun (x : Int) => ([.s (.int .i64 x)] : LC))) (cf' := (fun (x : Bool) => ([.s (.bool x)] : LC))) (ok := (fun (x : Int) => (Lit.int .i64 x).wf = true)) (ok' := (fun (x : Bool) => True)) rfl (by kernel_rfl) (fun _ => rfl) (opB_int Try.underlying3) (opBF_last (E := env) (cf := (fun (x : Bool) => ([.s (.bool x)] : LC))) (ok := (fun (x : Bool) => True)) rfl (fun _ => by kernel_rfl) (opB_bool Try.underlying4))))))
set_option maxRecDepth 100000 in
theorem lifted (os : Os) (started : os.Started) (H : Type) (enc : TypeId × Value → H) :
    ReturnsInHanded {} Try.checked os 5 .any (Rows.fnExactNewAreaSpec.pre6 enc Try.prog Try.f5 Rows.fnExactNewAreaRow.domain false) (Rows.fnExactNewAreaSpec.post enc Try.prog Try.f5 false true false false) := by
  refine returnsInHanded_of_change_sized (C := Try.checked) own started (by kernel_rfl) Try.func5
    (ChangeSpec.witness6 (enc := enc) (C := Try.checked) false ⟨#[], #[.int .i64 0, .slice none 0 0], []⟩ 8 (by kernel_rfl) (by kernel_rfl) (by kernel_rfl) (by kernel_rfl)) ?_
  intro W base args ds gs before hval0 hW hcnd hsz0 _
  have hval : ∀ (j : Nat) t v, Try.f5.params[j]? = some t → args[j]? = some v → Value.okWide Try.prog W .any base t v := hval0
  have hW' := hW
  obtain ⟨p, q, hA0, hV, rfl, hfz, hnd⟩ := hW
  have hA : DataW.TrodAll enc Try.prog W 0 (fun _ => true) true Try.f5.params.toList args.toList ds p := hA0
  rw [Try.params5] at hA hval
  obtain ⟨v0, vs0, d0, ds0, q0, z0, hargs, rfl, rfl, h0, r0⟩ := trodAll_cons hA
  obtain ⟨v1, vs1, d1, ds1, q1, z1, rfl, rfl, rfl, h1, r1⟩ := trodAll_cons r0
  obtain ⟨rfl, rfl, rfl⟩ := trodAll_nil r1
  obtain rfl : args = #[v0, v1] := by cases args; simp_all
  obtain ⟨rfl, rfl⟩ := trodVars_none hV
  have l0 : ∀ x ∈ q0, x.block < W.heap.size := by obtain ⟨m, hm⟩ := h0; exact DataW.trod_lt m _ _ _ hm
  have s0 := h0
  have u0 := hval 0 3 v0 rfl rfl
  have l1 : ∀ x ∈ q1, x.block < W.heap.size := by obtain ⟨m, hm⟩ := h1; exact DataW.trod_lt m _ _ _ hm
  have s1 := h1
  have u1 := hval 1 46 v1 rfl rfl
  clear hA0 hval0 hsz0 hval
  obtain ⟨a0, rfl, rfl, rfl, g0⟩ := open_int Try.underlying3 u0 h0
  obtain ⟨a1, K1, g1⟩ := opB_row Try.underlying46 (opB_slice (E := env) (e := 100) (ok := fun (z : S100) => OK100 z) Try.underlying46 (by kernel_rfl) (fun _ => rfl) o100) u1 h1
  obtain ⟨k, hk⟩ := Pure.FnExactNewArea a0 a1 g0 g1
  refine (call_plain (f5.says k a0 a1 true hk) (vs := [_, _]) ⟨(.s rfl), K1, trivial⟩).mono fun e W' ⟨he, bel⟩ => ?_
  subst he
  exact ⟨_, rfl, _, _, _, [], _, [], hW', trodAll_mk1 (shut_bool Try.underlying4 _), (trodAll_cons_mk (Below.trod laidOut (by kernel_rfl) (of_decide_eq_true (by kernel_rfl)) s0 bel l0) (trodAll_cons_mk (Below.trod laidOut (by kernel_rfl) (of_decide_eq_true (by kernel_rfl)) s1 bel l1) trodAll_mk0)), rfl, bel.frame _, fun h => by cases h⟩
theorem over : Rows.fnExactNewAreaRow.holds Try.pinned (OpenSpec.ofChange Rows.fnExactNewAreaSpec) :=
  OpenClaim.holds_of_wide 5 Try.f5 rfl rfl rfl rfl rfl rfl rfl ⟨rfl, rfl, rfl, rfl, rfl⟩ rfl rfl rfl rfl rfl (by kernel_rfl) Try.func5 (by kernel_rfl)
    (of_decide_eq_true (by kernel_rfl)) (by unfold Func.isWrapper; first | (rw [if_pos (by decide +kernel)]; kernel_rfl) | (rw [if_neg (by decide +kernel)]; exact ⟨rfl, rfl⟩))
    (fun os started H enc _ => lifted os started H enc)
theorem proved : Rows.FnExactNewAreaSaid := over
#print axioms proved
end Go.Proofs.Ytebmblbfplmcaaa.fnExactNewArea
namespace Go.Proofs.Ytebmblbfplmcaaa
theorem fnExactNewArea_holds : Rows.FnExactNewAreaSaid := fnExactNewArea.proved
end Go.Proofs.Ytebmblbfplmcaaa
