/- FnExactExpire: for every input the program's function answers what the reference's answers, as the law asks; no condition. -/
import Derived.Test.YtildepkogbcdpaaRows
import Derived.Test.YtildepkogbcdpaaBOpen
import Derived.Test.YtildepkogbcdpaaSaysFnExactExpire
import Derived.Test.YtildepkogbcdpaaPureFnExactExpire
import Derived.WalkKit
import Derived.ProofKit
import Derived.OpenShut
import Derived.ShutString
import Derived.ChangeOld
import Derived.Below
import Derived.SizedLaws
namespace Go.Proofs.Ytildepkogbcdpaa.fnExactExpire
open Go Go.B Go.ChangeShapes Go.WideShapes Go.ChangeAt Go.RowKit Go.Proofs.Ytildepkogbcdpaa.B Go.Proofs.Ytildepkogbcdpaa.SaysFnExactExpire
open Go.ChangeMaps (open_string shut_string)
set_option linter.unusedVariables false
set_option linter.unusedSimpArgs false
abbrev LC := List (Cell env.T)
theorem own : ownKnob Try.prog.godebug = none := by kernel_rfl
theorem laidOut : laidOutB Try.prog = true := by kernel_rfl
set_option maxRecDepth 100000 in
theorem o238 : OpB env Try.prog 238 (env.cells 238) OK238 := opB_iso (E := env) (α := (Int × Bool × (List Int))) (β := S238) (cf' := env.cells 238) (fun x : S238 => (⟨x.f0, x.f1, x.f2⟩ : (Int × Bool × (List Int)))) (fun x => (⟨x.1, x.2.1, x.2.2⟩ : S238)) (fun _ => rfl) (fun _ => rfl) (opB_fields (E := env) (cf := fun (x : (Int × Bool × (List Int))) => (([.s (.int .i64 x.1)] : LC) ++ (([.s (.bool x.2.1)] : LC) ++ ([.sl 5 x.2.2] : LC)))) (ok := fun x => ((Lit.int .i64 x.1).wf = true ∧ True ∧ (x.2.2.length ≤ maxLen ∧ ∀ y0 ∈ x.2.2, (Lit.int .u8 y0).wf = true))) Try.underlying238 (fun _ => by kernel_rfl) (opBF_cons (E := env) (k := 1) (cf := (fun (x : Int) => ([.s (.int .i64 x)] : LC))) (cf' := (fun (x : Bool × (List Int)) => (([.s (.bool x.1)] : LC) ++ ([.sl 5 x.2] : LC)))) (ok := (fun (x : Int) => (Lit.int .i64 x).wf = true)) (ok' := (fun (x : Bool × (List Int)) => True ∧ (x.2.length ≤ maxLen ∧ ∀ y0 ∈ x.2, (Lit.int .u8 y0).wf = true))) rfl (by kernel_rfl) (fun _ => rfl) (opB_int Try.underlying3) (opBF_cons (E := env) (k := 1) (cf := (fun (x : Bool) => ([.s (.bool x)] : LC))) (cf' := (fun (x : (List Int)) => ([.sl 5 x] : LC))) (ok := (fun (x : Bool) => True)) (ok' := (fun (x : (List Int)) => (x.length ≤ maxLen ∧ ∀ y0 ∈ x, (Lit.int .u8 y0).wf = true))) rfl (by kernel_rfl) (fun _ => rfl) (opB_bool Try.underlying4) (opBF_last (E := env) (cf := (fun (x : (List Int)) => ([.sl 5 x] : LC))) (ok := (fun (x : (List Int)) => (x.length ≤ maxLen ∧ ∀ y0 ∈ x, (Lit.int .u8 y0).wf = true))) rfl (fun _ => by kernel_rfl) (opB_slice (E := env) (e := 5) (ok := fun (z : Int) => (Lit.int .u8 z).wf = true) Try.underlying22 (by kernel_rfl) (fun _ => rfl) (opB_int Try.underlying5))))))
set_option maxRecDepth 100000 in
theorem o176 : OpB env Try.prog 176 (env.cells 176) OK176 := opB_iso (E := env) (α := (ByteArray × ByteArray × Int × Int × Int × (List S238))) (β := S176) (cf' := env.cells 176) (fun x : S176 => (⟨x.f0, x.f1, x.f2, x.f3, x.f4, x.f5⟩ : (ByteArray × ByteArray × Int × Int × Int × (List S238)))) (fun x => (⟨x.1, x.2.1, x.2.2.1, x.2.2.2.1, x.2.2.2.2.1, x.2.2.2.2.2⟩ : S176)) (fun _ => rfl) (fun _ => rfl) (opB_fields (E := env) (cf := fun (x : (ByteArray × ByteArray × Int × Int × Int × (List S238))) => (([.s (.string x.1)] : LC) ++ (([.s (.string x.2.1)] : LC) ++ (([.s (.int .i64 x.2.2.1)] : LC) ++ (([.s (.int .i64 x.2.2.2.1)] : LC) ++ (([.s (.int .i64 x.2.2.2.2.1)] : LC) ++ ([.sl 238 x.2.2.2.2.2] : LC))))))) (ok := fun x => (x.1.size ≤ maxLen ∧ x.2.1.size ≤ maxLen ∧ (Lit.int .i64 x.2.2.1).wf = true ∧ (Lit.int .i64 x.2.2.2.1).wf = true ∧ (Lit.int .i64 x.2.2.2.2.1).wf = true ∧ (x.2.2.2.2.2.length ≤ maxLen ∧ ∀ y0 ∈ x.2.2.2.2.2, OK238 y0))) Try.underlying176 (fun _ => by kernel_rfl) (opBF_cons (E := env) (k := 1) (cf := (fun (x : ByteArray) => ([.s (.string x)] : LC))) (cf' := (fun (x : ByteArray × Int × Int × Int × (List S238)) => (([.s (.string x.1)] : LC) ++ (([.s (.int .i64 x.2.1)] : LC) ++ (([.s (.int .i64 x.2.2.1)] : LC) ++ (([.s (.int .i64 x.2.2.2.1)] : LC) ++ ([.sl 238 x.2.2.2.2] : LC))))))) (ok := (fun (x : ByteArray) => x.size ≤ maxLen)) (ok' := (fun (x : ByteArray × Int × Int × Int × (List S238)) => x.1.size ≤ maxLen ∧ (Lit.int .i64 x.2.1).wf = true ∧ (Lit.int .i64 x.2.2.1).wf = true ∧ (Lit.int .i64 x.2.2.2.1).wf = true ∧ (x.2.2.2.2.length ≤ maxLen ∧ ∀ y0 ∈ x.2.2.2.2, OK238 y0))) rfl (by kernel_rfl) (fun _ => rfl) (opB_string Try.underlying9) (opBF_cons (E := env) (k := 1) (cf := (fun (x : ByteArray) => ([.s (.string x)] : LC))) (cf' := (fun (x : Int × Int × Int × (List S238)) => (([.s (.int .i64 x.1)] : LC) ++ (([.s (.int .i64 x.2.1)] : LC) ++ (([.s (.int .i64 x.2.2.1)] : LC) ++ ([.sl 238 x.2.2.2] : LC)))))) (ok := (fun (x : ByteArray) => x.size ≤ maxLen)) (ok' := (fun (x : Int × Int × Int × (List S238)) => (Lit.int .i64 x.1).wf = true ∧ (Lit.int .i64 x.2.1).wf = true ∧ (Lit.int .i64 x.2.2.1).wf = true ∧ (x.2.2.2.length ≤ maxLen ∧ ∀ y0 ∈ x.2.2.2, OK238 y0))) rfl (by kernel_rfl) (fun _ => rfl) (opB_string Try.underlying9) (opBF_cons (E := env) (k := 1) (cf := (fun (x : Int) => ([.s (.int .i64 x)] : LC))) (cf' := (fun (x : Int × Int × (List S238)) => (([.s (.int .i64 x.1)] : LC) ++ (([.s (.int .i64 x.2.1)] : LC) ++ ([.sl 238 x.2.2] : LC))))) (ok := (fun (x : Int) => (Lit.int .i64 x).wf = true)) (ok' := (fun (x : Int × Int × (List S238)) => (Lit.int .i64 x.1).wf = true ∧ (Lit.int .i64 x.2.1).wf = true ∧ (x.2.2.length ≤ maxLen ∧ ∀ y0 ∈ x.2.2, OK238 y0))) rfl (by kernel_rfl) (fun _ => rfl) (opB_int Try.underlying3) (opBF_cons (E := env) (k := 1) (cf := (fun (x : Int) => ([.s (.int .i64 x)] : LC))) (cf' := (fun (x : Int × (List S238)) => (([.s (.int .i64 x.1)] : LC) ++ ([.sl 238 x.2] : LC)))) (ok := (fun (x : Int) => (Lit.int .i64 x).wf = true)) (ok' := (fun (x : Int × (List S238)) => (Lit.int .i64 x.1).wf = true ∧ (x.2.length ≤ maxLen ∧ ∀ y0 ∈ x.2, OK238 y0))) rfl (by kernel_rfl) (fun _ => rfl) (opB_int Try.underlying3) (opBF_cons (E := env) (k := 1) (cf := (fun (x : Int) => ([.s (.int .i64 x)] : LC))) (cf' := (fun (x : (List S238)) => ([.sl 238 x] : LC))) (ok := (fun (x : Int) => (Lit.int .i64 x).wf = true)) (ok' := (fun (x : (List S238)) => (x.length ≤ maxLen ∧ ∀ y0 ∈ x, OK238 y0))) rfl (by kernel_rfl) (fun _ => rfl) (opB_int Try.underlying3) (opBF_last (E := env) (cf := (fun (x : (List S238)) => ([.sl 238 x] : LC))) (ok := (fun (x : (List S238)) => (x.length ≤ maxLen ∧ ∀ y0 ∈ x, OK238 y0))) rfl (fun _ => by kernel_rfl) (opB_slice (E := env) (e := 238) (ok := fun (z : S238) => OK238 z) Try.underlying174 (by kernel_rfl) (fun _ => rfl) o238))))))))
set_option maxRecDepth 100000 in
theorem lifted (os : Os) (started : os.Started) (H : Type) (enc : TypeId × Value → H) :
    ReturnsInHanded {} Try.checked os 14 .any (Rows.fnExactExpireSpec.pre6 enc Try.prog Try.f14 Rows.fnExactExpireRow.domain false) (Rows.fnExactExpireSpec.post enc Try.prog Try.f14 false true false false) := by
  refine returnsInHanded_of_change_sized (C := Try.checked) own started (by kernel_rfl) Try.func14
    (ChangeSpec.witness6 (enc := enc) (C := Try.checked) false ⟨#[], #[.slice none 0 0, .int .i64 0], []⟩ 8 (by kernel_rfl) (by kernel_rfl) (by kernel_rfl) (by kernel_rfl)) ?_
  intro W base args ds gs before hval0 hW hcnd hsz0 _
  have hval : ∀ (j : Nat) t v, Try.f14.params[j]? = some t → args[j]? = some v → Value.okWide Try.prog W .any base t v := hval0
  have hW' := hW
  obtain ⟨p, q, hA0, hV, rfl, hfz, hnd⟩ := hW
  have hA : DataW.TrodAll enc Try.prog W 0 (fun _ => true) true Try.f14.params.toList args.toList ds p := hA0
  rw [Try.params14] at hA hval
  obtain ⟨v0, vs0, d0, ds0, q0, z0, hargs, rfl, rfl, h0, r0⟩ := trodAll_cons hA
  obtain ⟨v1, vs1, d1, ds1, q1, z1, rfl, rfl, rfl, h1, r1⟩ := trodAll_cons r0
  obtain ⟨rfl, rfl, rfl⟩ := trodAll_nil r1
  obtain rfl : args = #[v0, v1] := by cases args; simp_all
  obtain ⟨rfl, rfl⟩ := trodVars_none hV
  have l0 : ∀ x ∈ q0, x.block < W.heap.size := by obtain ⟨m, hm⟩ := h0; exact DataW.trod_lt m _ _ _ hm
  have s0 := h0
  have u0 := hval 0 110 v0 rfl rfl
  have l1 : ∀ x ∈ q1, x.block < W.heap.size := by obtain ⟨m, hm⟩ := h1; exact DataW.trod_lt m _ _ _ hm
  have s1 := h1
  have u1 := hval 1 3 v1 rfl rfl
  clear hA0 hval0 hsz0 hval
  obtain ⟨a0, K0, g0⟩ := opB_row Try.underlying110 (opB_slice (E := env) (e := 176) (ok := fun (z : S176) => OK176 z) Try.underlying110 (by kernel_rfl) (fun _ => rfl) o176) u0 h0
  obtain ⟨a1, rfl, rfl, rfl, g1⟩ := open_int Try.underlying3 u1 h1
  obtain ⟨k, hk⟩ := Pure.FnExactExpire a0 a1 g0 g1
  refine (call_plain (f14.says k a0 a1 true hk) (vs := [_, _]) ⟨K0, (.s rfl), trivial⟩).mono fun e W' ⟨he, bel⟩ => ?_
  subst he
  exact ⟨_, rfl, _, _, _, [], _, [], hW', trodAll_mk1 (shut_bool Try.underlying4 _), (trodAll_cons_mk (Below.trod laidOut (by kernel_rfl) (of_decide_eq_true (by kernel_rfl)) s0 bel l0) (trodAll_cons_mk (Below.trod laidOut (by kernel_rfl) (of_decide_eq_true (by kernel_rfl)) s1 bel l1) trodAll_mk0)), rfl, bel.frame _, fun h => by cases h⟩
theorem over : Rows.fnExactExpireRow.holds Try.pinned (OpenSpec.ofChange Rows.fnExactExpireSpec) :=
  OpenClaim.holds_of_wide 14 Try.f14 rfl rfl rfl rfl rfl rfl rfl ⟨rfl, rfl, rfl, rfl, rfl⟩ rfl rfl rfl rfl rfl (by kernel_rfl) Try.func14 (by kernel_rfl)
    (of_decide_eq_true (by kernel_rfl)) (by unfold Func.isWrapper; first | (rw [if_pos (by decide +kernel)]; kernel_rfl) | (rw [if_neg (by decide +kernel)]; exact ⟨rfl, rfl⟩))
    (fun os started H enc _ => lifted os started H enc)
theorem proved : Rows.FnExactExpireSaid := over
#print axioms proved
end Go.Proofs.Ytildepkogbcdpaa.fnExactExpire
namespace Go.Proofs.Ytildepkogbcdpaa
theorem fnExactExpire_holds : Rows.FnExactExpireSaid := fnExactExpire.proved
end Go.Proofs.Ytildepkogbcdpaa
