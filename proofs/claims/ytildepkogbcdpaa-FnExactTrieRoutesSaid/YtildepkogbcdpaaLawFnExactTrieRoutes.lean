/- FnExactTrieRoutes: for every input the program's function answers what the reference's answers, as the law asks; no condition. -/
import Derived.Test.YtildepkogbcdpaaRows
import Derived.Test.YtildepkogbcdpaaBOpen
import Derived.Test.YtildepkogbcdpaaSaysFnExactTrieRoutes
import Derived.Test.YtildepkogbcdpaaPureFnExactTrieRoutes
import Derived.Test.YtildepkogbcdpaaBOpenR
import Derived.WalkKit
import Derived.ProofKit
import Derived.OpenShut
import Derived.ShutString
import Derived.ChangeOld
import Derived.Below
import Derived.SizedLaws
namespace Go.Proofs.Ytildepkogbcdpaa.fnExactTrieRoutes
open Go Go.B Go.ChangeShapes Go.WideShapes Go.ChangeAt Go.RowKit Go.Proofs.Ytildepkogbcdpaa.B Go.Proofs.Ytildepkogbcdpaa.SaysFnExactTrieRoutes
open Go.ChangeMaps (open_string shut_string)
set_option linter.unusedVariables false
set_option linter.unusedSimpArgs false
abbrev LC := List (Cell env.T)
theorem own : ownKnob Try.prog.godebug = none := by kernel_rfl
theorem laidOut : laidOutB Try.prog = true := by kernel_rfl
set_option maxRecDepth 100000 in
theorem o72T : ∀ m, OpBT m env Try.prog 72 (env.cells 72) OK72
  | 0 => opBT_zero Try.underlying72
  | m + 1 => opBT_map (fun x h => OK72.mk (h.1) (h.2.1) (h.2.2.1) (h.2.2.2.1) ((h.2.2.2.2).1) ((h.2.2.2.2).2)) (opBT_iso (E := env) (m := m + 1) (α := (ByteArray × Bool × Int × Int × (List S72))) (β := S72) (cf' := env.cells 72) (fun x : S72 => (⟨x.f0, x.f1, x.f2, x.f3, x.f4⟩ : (ByteArray × Bool × Int × Int × (List S72)))) (fun x => (⟨x.1, x.2.1, x.2.2.1, x.2.2.2.1, x.2.2.2.2⟩ : S72)) (fun _ => rfl) (fun _ => rfl) (opBT_fields (E := env) (m := m) (cf := fun (x : (ByteArray × Bool × Int × Int × (List S72))) => (([.s (.string x.1)] : LC) ++ (([.s (.bool x.2.1)] : LC) ++ (([.s (.int .i64 x.2.2.1)] : LC) ++ (([.s (.int .i64 x.2.2.2.1)] : LC) ++ ([.sl 72 x.2.2.2.2] : LC)))))) (ok := fun x => (x.1.size ≤ maxLen ∧ True ∧ (Lit.int .i64 x.2.2.1).wf = true ∧ (Lit.int .i64 x.2.2.2.1).wf = true ∧ (x.2.2.2.2.length ≤ maxLen ∧ ∀ y0 ∈ x.2.2.2.2, OK72 y0))) Try.underlying72 (fun _ => by kernel_rfl) (opBFT_cons (E := env) (k := 1) (cf := (fun (x : ByteArray) => ([.s (.string x)] : LC))) (cf' := (fun (x : Bool × Int × Int × (List S72)) => (([.s (.bool x.1)] : LC) ++ (([.s (.int .i64 x.2.1)] : LC) ++ (([.s (.int .i64 x.2.2.1)] : LC) ++ ([.sl 72 x.2.2.2] : LC)))))) (ok := (fun (x : ByteArray) => x.size ≤ maxLen)) (ok' := (fun (x : Bool × Int × Int × (List S72)) => True ∧ (Lit.int .i64 x.2.1).wf = true ∧ (Lit.int .i64 x.2.2.1).wf = true ∧ (x.2.2.2.length ≤ maxLen ∧ ∀ y0 ∈ x.2.2.2, OK72 y0))) rfl (by kernel_rfl) (fun _ => rfl) (opBT_of (opB_string Try.underlying9)) (opBFT_cons (E := env) (k := 1) (cf := (fun (x : Bool) => ([.s (.bool x)] : LC))) (cf' := (fun (x : Int × Int × (List S72)) => (([.s (.int .i64 x.1)] : LC) ++ (([.s (.int .i64 x.2.1)] : LC) ++ ([.sl 72 x.2.2] : LC))))) (ok := (fun (x : Bool) => True)) (ok' := (fun (x : Int × Int × (List S72)) => (Lit.int .i64 x.1).wf = true ∧ (Lit.int .i64 x.2.1).wf = true ∧ (x.2.2.length ≤ maxLen ∧ ∀ y0 ∈ x.2.2, OK72 y0))) rfl (by kernel_rfl) (fun _ => rfl) (opBT_of (opB_bool Try.underlying4)) (opBFT_cons (E := env) (k := 1) (cf := (fun (x : Int) => ([.s (.int .i64 x)] : LC))) (cf' := (fun (x : Int × (List S72)) => (([.s (.int .i64 x.1)] : LC) ++ ([.sl 72 x.2] : LC)))) (ok := (fun (x : Int) => (Lit.int .i64 x).wf = true)) (ok' := (fun (x : Int × (List S72)) => (Lit.int .i64 x.1).wf = true ∧ (x.2.length ≤ maxLen ∧ ∀ y0 ∈ x.2, OK72 y0))) rfl (by kernel_rfl) (fun _ => rfl) (opBT_of (opB_int Try.underlying3)) (opBFT_cons (E := env) (k := 1) (cf := (fun (x : Int) => ([.s (.int .i64 x)] : LC))) (cf' := (fun (x : (List S72)) => ([.sl 72 x] : LC))) (ok := (fun (x : Int) => (Lit.int .i64 x).wf = true)) (ok' := (fun (x : (List S72)) => (x.length ≤ maxLen ∧ ∀ y0 ∈ x, OK72 y0))) rfl (by kernel_rfl) (fun _ => rfl) (opBT_of (opB_int Try.underlying3)) (opBFT_last (E := env) (cf := (fun (x : (List S72)) => ([.sl 72 x] : LC))) (ok := (fun (x : (List S72)) => (x.length ≤ maxLen ∧ ∀ y0 ∈ x, OK72 y0))) rfl (fun _ => by kernel_rfl) (opBT_slice (E := env) (m := m) (e := 72) (ok := fun (z : S72) => OK72 z) Try.underlying70 (by kernel_rfl) (fun _ => rfl) (o72T m)))))))))
theorem o72 : OpB env Try.prog 72 (env.cells 72) OK72 := opB_ofT o72T
set_option maxRecDepth 100000 in
theorem p0 : OpB env Try.prog 72 (fun (x : (ByteArray × Bool × Int × Int × (List S72))) => (([.s (.string x.1)] : LC) ++ (([.s (.bool x.2.1)] : LC) ++ (([.s (.int .i64 x.2.2.1)] : LC) ++ (([.s (.int .i64 x.2.2.2.1)] : LC) ++ ([.sl 72 x.2.2.2.2] : LC)))))) (fun x => (x.1.size ≤ maxLen ∧ True ∧ (Lit.int .i64 x.2.2.1).wf = true ∧ (Lit.int .i64 x.2.2.2.1).wf = true ∧ (x.2.2.2.2.length ≤ maxLen ∧ ∀ y0 ∈ x.2.2.2.2, OK72 y0))) := (opB_fields (E := env) (cf := fun (x : (ByteArray × Bool × Int × Int × (List S72))) => (([.s (.string x.1)] : LC) ++ (([.s (.bool x.2.1)] : LC) ++ (([.s (.int .i64 x.2.2.1)] : LC) ++ (([.s (.int .i64 x.2.2.2.1)] : LC) ++ ([.sl 72 x.2.2.2.2] : LC)))))) (ok := fun x => (x.1.size ≤ maxLen ∧ True ∧ (Lit.int .i64 x.2.2.1).wf = true ∧ (Lit.int .i64 x.2.2.2.1).wf = true ∧ (x.2.2.2.2.length ≤ maxLen ∧ ∀ y0 ∈ x.2.2.2.2, OK72 y0))) Try.underlying72 (fun _ => by kernel_rfl) (opBF_cons (E := env) (k := 1) (cf := (fun (x : ByteArray) => ([.s (.string x)] : LC))) (cf' := (fun (x : Bool × Int × Int × (List S72)) => (([.s (.bool x.1)] : LC) ++ (([.s (.int .i64 x.2.1)] : LC) ++ (([.s (.int .i64 x.2.2.1)] : LC) ++ ([.sl 72 x.2.2.2] : LC)))))) (ok := (fun (x : ByteArray) => x.size ≤ maxLen)) (ok' := (fun (x : Bool × Int × Int × (List S72)) => True ∧ (Lit.int .i64 x.2.1).wf = true ∧ (Lit.int .i64 x.2.2.1).wf = true ∧ (x.2.2.2.length ≤ maxLen ∧ ∀ y0 ∈ x.2.2.2, OK72 y0))) rfl (by kernel_rfl) (fun _ => rfl) (opB_string Try.underlying9) (opBF_cons (E := env) (k := 1) (cf := (fun (x : Bool) => ([.s (.bool x)] : LC))) (cf' := (fun (x : Int × Int × (List S72)) => (([.s (.int .i64 x.1)] : LC) ++ (([.s (.int .i64 x.2.1)] : LC) ++ ([.sl 72 x.2.2] : LC))))) (ok := (fun (x : Bool) => True)) (ok' := (fun (x : Int × Int × (List S72)) => (Lit.int .i64 x.1).wf = true ∧ (Lit.int .i64 x.2.1).wf = true ∧ (x.2.2.length ≤ maxLen ∧ ∀ y0 ∈ x.2.2, OK72 y0))) rfl (by kernel_rfl) (fun _ => rfl) (opB_bool Try.underlying4) (opBF_cons (E := env) (k := 1) (cf := (fun (x : Int) => ([.s (.int .i64 x)] : LC))) (cf' := (fun (x : Int × (List S72)) => (([.s (.int .i64 x.1)] : LC) ++ ([.sl 72 x.2] : LC)))) (ok := (fun (x : Int) => (Lit.int .i64 x).wf = true)) (ok' := (fun (x : Int × (List S72)) => (Lit.int .i64 x.1).wf = true ∧ (x.2.length ≤ maxLen ∧ ∀ y0 ∈ x.2, OK72 y0))) rfl (by kernel_rfl) (fun _ => rfl) (opB_int Try.underlying3) (opBF_cons (E := env) (k := 1) (cf := (fun (x : Int) => ([.s (.int .i64 x)] : LC))) (cf' := (fun (x : (List S72)) => ([.sl 72 x] : LC))) (ok := (fun (x : Int) => (Lit.int .i64 x).wf = true)) (ok' := (fun (x : (List S72)) => (x.length ≤ maxLen ∧ ∀ y0 ∈ x, OK72 y0))) rfl (by kernel_rfl) (fun _ => rfl) (opB_int Try.underlying3) (opBF_last (E := env) (cf := (fun (x : (List S72)) => ([.sl 72 x] : LC))) (ok := (fun (x : (List S72)) => (x.length ≤ maxLen ∧ ∀ y0 ∈ x, OK72 y0))) rfl (fun _ => by kernel_rfl) (opB_slice (E := env) (e := 72) (ok := fun (z : S72) => OK72 z) Try.underlying70 (by kernel_rfl) (fun _ => rfl) o72)))))))
set_option maxRecDepth 100000 in
theorem lifted (os : Os) (started : os.Started) (H : Type) (enc : TypeId × Value → H) :
    ReturnsInHanded {} Try.checked os 8 .any (Rows.fnExactTrieRoutesSpec.pre6 enc Try.prog Try.f8 Rows.fnExactTrieRoutesRow.domain false) (Rows.fnExactTrieRoutesSpec.post enc Try.prog Try.f8 false true false false) := by
  refine returnsInHanded_of_change_sized (C := Try.checked) own started (by kernel_rfl) Try.func8
    (ChangeSpec.witness6 (enc := enc) (C := Try.checked) false ⟨#[], #[.agg #[.string ByteArray.empty, .bool false, .int .i64 0, .int .i64 0, .slice none 0 0]], []⟩ 8 (by kernel_rfl) (by kernel_rfl) (by kernel_rfl) (by kernel_rfl)) ?_
  intro W base args ds gs before hval0 hW hcnd hsz0 _
  have hval : ∀ (j : Nat) t v, Try.f8.params[j]? = some t → args[j]? = some v → Value.okWide Try.prog W .any base t v := hval0
  have hW' := hW
  obtain ⟨p, q, hA0, hV, rfl, hfz, hnd⟩ := hW
  have hA : DataW.TrodAll enc Try.prog W 0 (fun _ => true) true Try.f8.params.toList args.toList ds p := hA0
  rw [Try.params8] at hA hval
  obtain ⟨v0, vs0, d0, ds0, q0, z0, hargs, rfl, rfl, h0, r0⟩ := trodAll_cons hA
  obtain ⟨rfl, rfl, rfl⟩ := trodAll_nil r0
  obtain rfl : args = #[v0] := by cases args; simp_all
  obtain ⟨rfl, rfl⟩ := trodVars_none hV
  have l0 : ∀ x ∈ q0, x.block < W.heap.size := by obtain ⟨m, hm⟩ := h0; exact DataW.trod_lt m _ _ _ hm
  have s0 := h0
  have u0 := hval 0 72 v0 rfl rfl
  clear hA0 hval0 hsz0 hval
  obtain ⟨cs0, x0, rfl, K0, g0⟩ := opB_agg Try.underlying72 p0 u0 h0
  obtain ⟨a0_0, a0_1, a0_2, a0_3, a0_4⟩ := x0
  obtain ⟨g0_0, g0_1, g0_2, g0_3, g0_4⟩ := g0
  obtain ⟨k, hk⟩ := Pure.FnExactTrieRoutes a0_0 a0_1 a0_2 a0_3 a0_4 g0_0 g0_1 g0_2 g0_3 g0_4
  refine (call_plain (f8.says k a0_0 a0_1 a0_2 a0_3 a0_4 true hk) (vs := [_]) ⟨⟨cs0, rfl, K0⟩, trivial⟩).mono fun e W' ⟨he, bel⟩ => ?_
  subst he
  exact ⟨_, rfl, _, _, _, [], _, [], hW', trodAll_mk1 (shut_bool Try.underlying4 _), (trodAll_cons_mk (Below.trod laidOut (by kernel_rfl) (of_decide_eq_true (by kernel_rfl)) s0 bel l0) trodAll_mk0), rfl, bel.frame _, fun h => by cases h⟩
theorem over : Rows.fnExactTrieRoutesRow.holds Try.pinned (OpenSpec.ofChange Rows.fnExactTrieRoutesSpec) :=
  OpenClaim.holds_of_wide 8 Try.f8 rfl rfl rfl rfl rfl rfl rfl ⟨rfl, rfl, rfl, rfl, rfl⟩ rfl rfl rfl rfl rfl (by kernel_rfl) Try.func8 (by kernel_rfl)
    (of_decide_eq_true (by kernel_rfl)) (by unfold Func.isWrapper; first | (rw [if_pos (by decide +kernel)]; kernel_rfl) | (rw [if_neg (by decide +kernel)]; exact ⟨rfl, rfl⟩))
    (fun os started H enc _ => lifted os started H enc)
theorem proved : Rows.FnExactTrieRoutesSaid := over
#print axioms proved
end Go.Proofs.Ytildepkogbcdpaa.fnExactTrieRoutes
namespace Go.Proofs.Ytildepkogbcdpaa
theorem fnExactTrieRoutes_holds : Rows.FnExactTrieRoutesSaid := fnExactTrieRoutes.proved
end Go.Proofs.Ytildepkogbcdpaa
