/- FnExactFragment: for every input the program's function answers what the reference's answers, as the law asks; no condition. -/
import Derived.Test.YtildepkogbcdpaaRows
import Derived.Test.YtildepkogbcdpaaBOpen
import Derived.Test.YtildepkogbcdpaaSaysFnExactFragment
import Derived.Test.YtildepkogbcdpaaPureFnExactFragment
import Derived.WalkKit
import Derived.ProofKit
import Derived.OpenShut
import Derived.ShutString
import Derived.ChangeOld
import Derived.Below
import Derived.SizedLaws
namespace Go.Proofs.Ytildepkogbcdpaa.fnExactFragment
open Go Go.B Go.ChangeShapes Go.WideShapes Go.ChangeAt Go.RowKit Go.Proofs.Ytildepkogbcdpaa.B Go.Proofs.Ytildepkogbcdpaa.SaysFnExactFragment
open Go.ChangeMaps (open_string shut_string)
set_option linter.unusedVariables false
set_option linter.unusedSimpArgs false
abbrev LC := List (Cell env.T)
theorem own : ownKnob Try.prog.godebug = none := by kernel_rfl
theorem laidOut : laidOutB Try.prog = true := by kernel_rfl
set_option maxRecDepth 100000 in
theorem p0 : OpB env Try.prog 88 (fun (x : (Int × ByteArray × ByteArray × Int × Int × Int × Int × Bool × Bool × (List Int))) => (([.s (.int .i64 x.1)] : LC) ++ (([.s (.string x.2.1)] : LC) ++ (([.s (.string x.2.2.1)] : LC) ++ (([.s (.int .i64 x.2.2.2.1)] : LC) ++ (([.s (.int .i64 x.2.2.2.2.1)] : LC) ++ (([.s (.int .i64 x.2.2.2.2.2.1)] : LC) ++ (([.s (.int .i64 x.2.2.2.2.2.2.1)] : LC) ++ (([.s (.bool x.2.2.2.2.2.2.2.1)] : LC) ++ (([.s (.bool x.2.2.2.2.2.2.2.2.1)] : LC) ++ ([.sl 5 x.2.2.2.2.2.2.2.2.2] : LC))))))))))) (fun x => ((Lit.int .i64 x.1).wf = true ∧ x.2.1.size ≤ maxLen ∧ x.2.2.1.size ≤ maxLen ∧ (Lit.int .i64 x.2.2.2.1).wf = true ∧ (Lit.int .i64 x.2.2.2.2.1).wf = true ∧ (Lit.int .i64 x.2.2.2.2.2.1).wf = true ∧ (Lit.int .i64 x.2.2.2.2.2.2.1).wf = true ∧ True ∧ True ∧ (x.2.2.2.2.2.2.2.2.2.length ≤ maxLen ∧ ∀ y0 ∈ x.2.2.2.2.2.2.2.2.2, (Lit.int .u8 y0).wf = true))) := (opB_fields (E := env) (cf := fun (x : (Int × ByteArray × ByteArray × Int × Int × Int × Int × Bool × Bool × (List Int))) => (([.s (.int .i64 x.1)] : LC) ++ (([.s (.string x.2.1)] : LC) ++ (([.s (.string x.2.2.1)] : LC) ++ (([.s (.int .i64 x.2.2.2.1)] : LC) ++ (([.s (.int .i64 x.2.2.2.2.1)] : LC) ++ (([.s (.int .i64 x.2.2.2.2.2.1)] : LC) ++ (([.s (.int .i64 x.2.2.2.2.2.2.1)] : LC) ++ (([.s (.bool x.2.2.2.2.2.2.2.1)] : LC) ++ (([.s (.bool x.2.2.2.2.2.2.2.2.1)] : LC) ++ ([.sl 5 x.2.2.2.2.2.2.2.2.2] : LC))))))))))) (ok := fun x => ((Lit.int .i64 x.1).wf = true ∧ x.2.1.size ≤ maxLen ∧ x.2.2.1.size ≤ maxLen ∧ (Lit.int .i64 x.2.2.2.1).wf = true ∧ (Lit.int .i64 x.2.2.2.2.1).wf = true ∧ (Lit.int .i64 x.2.2.2.2.2.1).wf = true ∧ (Lit.int .i64 x.2.2.2.2.2.2.1).wf = true ∧ True ∧ True ∧ (x.2.2.2.2.2.2.2.2.2.length ≤ maxLen ∧ ∀ y0 ∈ x.2.2.2.2.2.2.2.2.2, (Lit.int .u8 y0).wf = true))) Try.underlying88 (fun _ => by kernel_rfl) (opBF_cons (E := env) (k := 1) (cf := (fun (x : Int) => ([.s (.int .i64 x)] : LC))) (cf' := (fun (x : ByteArray × ByteArray × Int × Int × Int × Int × Bool × Bool × (List Int)) => (([.s (.string x.1)] : LC) ++ (([.s (.string x.2.1)] : LC) ++ (([.s (.int .i64 x.2.2.1)] : LC) ++ (([.s (.int .i64 x.2.2.2.1)] : LC) ++ (([.s (.int .i64 x.2.2.2.2.1)] : LC) ++ (([.s (.int .i64 x.2.2.2.2.2.1)] : LC) ++ (([.s (.bool x.2.2.2.2.2.2.1)] : LC) ++ (([.s (.bool x.2.2.2.2.2.2.2.1)] : LC) ++ ([.sl 5 x.2.2.2.2.2.2.2.2] : LC))))))))))) (ok := (fun (x : Int) => (Lit.int .i64 x).wf = true)) (ok' := (fun (x : ByteArray × ByteArray × Int × Int × Int × Int × Bool × Bool × (List Int)) => x.1.size ≤ maxLen ∧ x.2.1.size ≤ maxLen ∧ (Lit.int .i64 x.2.2.1).wf = true ∧ (Lit.int .i64 x.2.2.2.1).wf = true ∧ (Lit.int .i64 x.2.2.2.2.1).wf = true ∧ (Lit.int .i64 x.2.2.2.2.2.1).wf = true ∧ True ∧ True ∧ (x.2.2.2.2.2.2.2.2.length ≤ maxLen ∧ ∀ y0 ∈ x.2.2.2.2.2.2.2.2, (Lit.int .u8 y0).wf = true))) rfl (by kernel_rfl) (fun _ => rfl) (opB_int Try.underlying3) (opBF_cons (E := env) (k := 1) (cf := (fun (x : ByteArray) => ([.s (.string x)] : LC))) (cf' := (fun (x : ByteArray × Int × Int × Int × Int × Bool × Bool × (List Int)) => (([.s (.string x.1)] : LC) ++ (([.s (.int .i64 x.2.1)] : LC) ++ (([.s (.int .i64 x.2.2.1)] : LC) ++ (([.s (.int .i64 x.2.2.2.1)] : LC) ++ (([.s (.int .i64 x.2.2.2.2.1)] : LC) ++ (([.s (.bool x.2.2.2.2.2.1)] : LC) ++ (([.s (.bool x.2.2.2.2.2.2.1)] : LC) ++ ([.sl 5 x.2.2.2.2.2.2.2] : LC)))))))))) (ok := (fun (x : ByteArray) => x.size ≤ maxLen)) (ok' := (fun (x : ByteArray × Int × Int × Int × Int × Bool × Bool × (List Int)) => x.1.size ≤ maxLen ∧ (Lit.int .i64 x.2.1).wf = true ∧ (Lit.int .i64 x.2.2.1).wf = true ∧ (Lit.int .i64 x.2.2.2.1).wf = true ∧ (Lit.int .i64 x.2.2.2.2.1).wf = true ∧ True ∧ True ∧ (x.2.2.2.2.2.2.2.length ≤ maxLen ∧ ∀ y0 ∈ x.2.2.2.2.2.2.2, (Lit.int .u8 y0).wf = true))) rfl (by kernel_rfl) (fun _ => rfl) (opB_string Try.underlying9) (opBF_cons (E := env) (k := 1) (cf := (fun (x : ByteArray) => ([.s (.string x)] : LC))) (cf' := (fun (x : Int × Int × Int × Int × Bool × Bool × (List Int)) => (([.s (.int .i64 x.1)] : LC) ++ (([.s (.int .i64 x.2.1)] : LC) ++ (([.s (.int .i64 x.2.2.1)] : LC) ++ (([.s (.int .i64 x.2.2.2.1)] : LC) ++ (([.s (.bool x.2.2.2.2.1)] : LC) ++ (([.s (.bool x.2.2.2.2.2.1)] : LC) ++ ([.sl 5 x.2.2.2.2.2.2] : LC))))))))) (ok := (fun (x : ByteArray) => x.size ≤ maxLen)) (ok' := (fun (x : Int × Int × Int × Int × Bool × Bool × (List Int)) => (Lit.int .i64 x.1).wf = true ∧ (Lit.int .i64 x.2.1).wf = true ∧ (Lit.int .i64 x.2.2.1).wf = true ∧ (Lit.int .i64 x.2.2.2.1).wf = true ∧ True ∧ True ∧ (x.2.2.2.2.2.2.length ≤ maxLen ∧ ∀ y0 ∈ x.2.2.2.2.2.2, (Lit.int .u8 y0).wf = true))) rfl (by kernel_rfl) (fun _ => rfl) (opB_string Try.underlying9) (opBF_cons (E := env) (k := 1) (cf := (fun (x : Int) => ([.s (.int .i64 x)] : LC))) (cf' := (fun (x : Int × Int × Int × Bool × Bool × (List Int)) => (([.s (.int .i64 x.1)] : LC) ++ (([.s (.int .i64 x.2.1)] : LC) ++ (([.s (.int .i64 x.2.2.1)] : LC) ++ (([.s (.bool x.2.2.2.1)] : LC) ++ (([.s (.bool x.2.2.2.2.1)] : LC) ++ ([.sl 5 x.2.2.2.2.2] : LC)))))))) (ok := (fun (x : Int) => (Lit.int .i64 x).wf = true)) (ok' := (fun (x : Int × Int × Int × Bool × Bool × (List Int)) => (Lit.int .i64 x.1).wf = true ∧ (Lit.int .i64 x.2.1).wf = true ∧ (Lit.int .i64 x.2.2.1).wf = true ∧ True ∧ True ∧ (x.2.2.2.2.2.length ≤ maxLen ∧ ∀ y0 ∈ x.2.2.2.2.2, (Lit.int .u8 y0).wf = true))) rfl (by kernel_rfl) (fun _ => rfl) (opB_int Try.underlying3) (opBF_cons (E := env) (k := 1) (cf := (fun (x : Int) => ([.s (.int .i64 x)] : LC))) (cf' := (fun (x : Int × Int × Bool × Bool × (List Int)) => (([.s (.int .i64 x.1)] : LC) ++ (([.s (.int .i64 x.2.1)] : LC) ++ (([.s (.bool x.2.2.1)] : LC) ++ (([.s (.bool x.2.2.2.1)] : LC) ++ ([.sl 5 x.2.2.2.2] : LC))))))) (ok := (fun (x : Int) => (Lit.int .i64 x).wf = true)) (ok' := (fun (x : Int × Int × Bool × Bool × (List Int)) => (Lit.int .i64 x.1).wf = true ∧ (Lit.int .i64 x.2.1).wf = true ∧ True ∧ True ∧ (x.2.2.2.2.length ≤ maxLen ∧ ∀ y0 ∈ x.2.2.2.2, (Lit.int .u8 y0).wf = true))) rfl (by kernel_rfl) (fun _ => rfl) (opB_int Try.underlying3) (opBF_cons (E := env) (k := 1) (cf := (fun (x : Int) => ([.s (.int .i64 x)] : LC))) (cf' := (fun (x : Int × Bool × Bool × (List Int)) => (([.s (.int .i64 x.1)] : LC) ++ (([.s (.bool x.2.1)] : LC) ++ (([.s (.bool x.2.2.1)] : LC) ++ ([.sl 5 x.2.2.2] : LC)))))) (ok := (fun (x : Int) => (Lit.int .i64 x).wf = true)) (ok' := (fun (x : Int × Bool × Bool × (List Int)) => (Lit.int .i64 x.1).wf = true ∧ True ∧ True ∧ (x.2.2.2.length ≤ maxLen ∧ ∀ y0 ∈ x.2.2.2, (Lit.int .u8 y0).wf = true))) rfl (by kernel_rfl) (fun _ => rfl) (opB_int Try.underlying3) (opBF_cons (E := env) (k := 1) (cf := (fun (x : Int) => ([.s (.int .i64 x)] : LC))) (cf' := (fun (x : Bool × Bool × (List Int)) => (([.s (.bool x.1)] : LC) ++ (([.s (.bool x.2.1)] : LC) ++ ([.sl 5 x.2.2] : LC))))) (ok := (fun (x : Int) => (Lit.int .i64 x).wf = true)) (ok' := (fun (x : Bool × Bool × (List Int)) => True ∧ True ∧ (x.2.2.length ≤ maxLen ∧ ∀ y0 ∈ x.2.2, (Lit.int .u8 y0).wf = true))) rfl (by kernel_rfl) (fun _ => rfl) (opB_int Try.underlying3) (opBF_cons (E := env) (k := 1) (cf := (fun (x : Bool) => ([.s (.bool x)] : LC))) (cf' := (fun (x : Bool × (List Int)) => (([.s (.bool x.1)] : LC) ++ ([.sl 5 x.2] : LC)))) (ok := (fun (x : Bool) => True)) (ok' := (fun (x : Bool × (List Int)) => True ∧ (x.2.length ≤ maxLen ∧ ∀ y0 ∈ x.2, (Lit.int .u8 y0).wf = true))) rfl (by kernel_rfl) (fun _ => rfl) (opB_bool Try.underlying4) (opBF_cons (E := env) (k := 1) (cf := (fun (x : Bool) => ([.s (.bool x)] : LC))) (cf' := (fun (x : (List Int)) => ([.sl 5 x] : LC))) (ok := (fun (x : Bool) => True)) (ok' := (fun (x : (List Int)) => (x.length ≤ maxLen ∧ ∀ y0 ∈ x, (Lit.int .u8 y0).wf = true))) rfl (by kernel_rfl) (fun _ => rfl) (opB_bool Try.underlying4) (opBF_last (E := env) (cf := (fun (x : (List Int)) => ([.sl 5 x] : LC))) (ok := (fun (x : (List Int)) => (x.length ≤ maxLen ∧ ∀ y0 ∈ x, (Lit.int .u8 y0).wf = true))) rfl (fun _ => by kernel_rfl) (opB_slice (E := env) (e := 5) (ok := fun (z : Int) => (Lit.int .u8 z).wf = true) Try.underlying22 (by kernel_rfl) (fun _ => rfl) (opB_int Try.underlying5)))))))))))))
set_option maxRecDepth 100000 in
theorem lifted (os : Os) (started : os.Started) (H : Type) (enc : TypeId × Value → H) :
    ReturnsInHanded {} Try.checked os 10 .any (Rows.fnExactFragmentSpec.pre6 enc Try.prog Try.f10 Rows.fnExactFragmentRow.domain false) (Rows.fnExactFragmentSpec.post enc Try.prog Try.f10 false true false false) := by
  refine returnsInHanded_of_change_sized (C := Try.checked) own started (by kernel_rfl) Try.func10
    (ChangeSpec.witness6 (enc := enc) (C := Try.checked) false ⟨#[], #[.agg #[.int .i64 0, .string ByteArray.empty, .string ByteArray.empty, .int .i64 0, .int .i64 0, .int .i64 0, .int .i64 0, .bool false, .bool false, .slice none 0 0], .int .i64 0], []⟩ 8 (by kernel_rfl) (by kernel_rfl) (by kernel_rfl) (by kernel_rfl)) ?_
  intro W base args ds gs before hval0 hW hcnd hsz0 _
  have hval : ∀ (j : Nat) t v, Try.f10.params[j]? = some t → args[j]? = some v → Value.okWide Try.prog W .any base t v := hval0
  have hW' := hW
  obtain ⟨p, q, hA0, hV, rfl, hfz, hnd⟩ := hW
  have hA : DataW.TrodAll enc Try.prog W 0 (fun _ => true) true Try.f10.params.toList args.toList ds p := hA0
  rw [Try.params10] at hA hval
  obtain ⟨v0, vs0, d0, ds0, q0, z0, hargs, rfl, rfl, h0, r0⟩ := trodAll_cons hA
  obtain ⟨v1, vs1, d1, ds1, q1, z1, rfl, rfl, rfl, h1, r1⟩ := trodAll_cons r0
  obtain ⟨rfl, rfl, rfl⟩ := trodAll_nil r1
  obtain rfl : args = #[v0, v1] := by cases args; simp_all
  obtain ⟨rfl, rfl⟩ := trodVars_none hV
  have l0 : ∀ x ∈ q0, x.block < W.heap.size := by obtain ⟨m, hm⟩ := h0; exact DataW.trod_lt m _ _ _ hm
  have s0 := h0
  have u0 := hval 0 88 v0 rfl rfl
  have l1 : ∀ x ∈ q1, x.block < W.heap.size := by obtain ⟨m, hm⟩ := h1; exact DataW.trod_lt m _ _ _ hm
  have s1 := h1
  have u1 := hval 1 3 v1 rfl rfl
  clear hA0 hval0 hsz0 hval
  obtain ⟨cs0, x0, rfl, K0, g0⟩ := opB_agg Try.underlying88 p0 u0 h0
  obtain ⟨a0_0, a0_1, a0_2, a0_3, a0_4, a0_5, a0_6, a0_7, a0_8, a0_9⟩ := x0
  obtain ⟨g0_0, g0_1, g0_2, g0_3, g0_4, g0_5, g0_6, g0_7, g0_8, g0_9⟩ := g0
  obtain ⟨a1, rfl, rfl, rfl, g1⟩ := open_int Try.underlying3 u1 h1
  obtain ⟨k, hk⟩ := Pure.FnExactFragment a0_0 a0_1 a0_2 a0_3 a0_4 a0_5 a0_6 a0_7 a0_8 a0_9 a1 g0_0 g0_1 g0_2 g0_3 g0_4 g0_5 g0_6 g0_7 g0_8 g0_9 g1
  refine (call_plain (f10.says k a0_0 a0_1 a0_2 a0_3 a0_4 a0_5 a0_6 a0_7 a0_8 a0_9 a1 true hk) (vs := [_, _]) ⟨⟨cs0, rfl, K0⟩, (.s rfl), trivial⟩).mono fun e W' ⟨he, bel⟩ => ?_
  subst he
  exact ⟨_, rfl, _, _, _, [], _, [], hW', trodAll_mk1 (shut_bool Try.underlying4 _), (trodAll_cons_mk (Below.trod laidOut (by kernel_rfl) (of_decide_eq_true (by kernel_rfl)) s0 bel l0) (trodAll_cons_mk (Below.trod laidOut (by kernel_rfl) (of_decide_eq_true (by kernel_rfl)) s1 bel l1) trodAll_mk0)), rfl, bel.frame _, fun h => by cases h⟩
theorem over : Rows.fnExactFragmentRow.holds Try.pinned (OpenSpec.ofChange Rows.fnExactFragmentSpec) :=
  OpenClaim.holds_of_wide 10 Try.f10 rfl rfl rfl rfl rfl rfl rfl ⟨rfl, rfl, rfl, rfl, rfl⟩ rfl rfl rfl rfl rfl (by kernel_rfl) Try.func10 (by kernel_rfl)
    (of_decide_eq_true (by kernel_rfl)) (by unfold Func.isWrapper; first | (rw [if_pos (by decide +kernel)]; kernel_rfl) | (rw [if_neg (by decide +kernel)]; exact ⟨rfl, rfl⟩))
    (fun os started H enc _ => lifted os started H enc)
theorem proved : Rows.FnExactFragmentSaid := over
#print axioms proved
end Go.Proofs.Ytildepkogbcdpaa.fnExactFragment
namespace Go.Proofs.Ytildepkogbcdpaa
theorem fnExactFragment_holds : Rows.FnExactFragmentSaid := fnExactFragment.proved
end Go.Proofs.Ytildepkogbcdpaa
