/- Written by a program of this session. -/
import Derived.Test.YtepfpdaehcmblaaBEnv
import Derived.Test.YtepfpdaehcmblaaBHd
namespace Go.Proofs.Ytepfpdaehcmblaa.B
open Go Go.B
set_option linter.unusedVariables false
set_option linter.unusedSimpArgs false
def f54.step {R : Type} (k : Nat) (ret : ((List Int) × Int × Int) → Option R) (xs1 : List Int) : Option R :=
  ret (xs1, (0 : Int), (Int.tmod (((List.length xs1) : Nat) : Int) (1000 : Int)))
def f54 (k : Nat) (xs1 : List Int) : Option ((List Int) × Int × Int) := f54.step k some xs1
def f54.w {R : Type} : ((List Int) × Int × Int) → (Res env → Option R) → Option R := fun t2 K => K ⟨.v (.c (.ptr [.sl 5 t2.1, .s (.int .i64 t2.2.1), .s (.int .i64 t2.2.2)])), [[]]⟩
theorem f54.wn (x : ((List Int) × Int × Int)) : ∃ res, ∀ {R : Type} (K : Res env → Option R), f54.w x K = K res := by
  exact ⟨_, fun _ => rfl⟩
def f54.hd (k : Nat) (ps_ : List (P2 env)) : Cl env :=
  pM Cl.no 5 ps_ fun xs1 ps_ => gE Cl.no ps_ <| { α := (List Int) × Int × Int, o := f54 k xs1, w := f54.w, nat := fun x _ => f54.wn x }
def f54.e (k : Nat) : Entry env := ⟨fun ps => f54.hd k (coer [[.rd 5]] ps), [], []⟩
def f54.X (k : Nat) : Ctx env := { C := lookE [], L := lookE [], J := lookE [], keep := lookD [], keepX := lookD [], span := lookN [], eff := fun n => memN n [], prep := lookP [], np := 0 }
theorem f54.nat {R : Type} (k : Nat) (g : _ → Option R) (xs1) : f54.step k g xs1 = (f54 k xs1).bind g := by
  simp only [f54, f54.step, bind_ite, bind_sum, Option.bind_assoc, Option.bind_some, Option.bind_none]
theorem f54.ev (k : Nat) (xs1 : List Int) : evF (f54.X k) (bodyOf Try.f54) Try.f54.ntmps Try.f54.results.toList [.v (.c (.sl 5 xs1))] = f54.step k (fun x => f54.w x some) xs1 := by kernel_rfl
theorem f54.hok (k : Nat) : HOK (f54.X k) (bodyOf Try.f54) where
  l := allP_mem (by exact trivial)
  j := allP_mem (by exact trivial)
  q := allP_mem (by exact trivial)
theorem f54.sound0 (k : Nat) : SoundC env Try.prog 54 (f54.hd k) := by
  intro ps_
  show GoodC _ _ _ ps_ (f54.hd k ps_)
  unfold f54.hd
  have hF_ := fun_sound envOK (cs_sound _ (by exact trivial)) (f54.hok k) Try.func54 rfl
  have hev_ := f54.ev k
  have hnat_ := fun g_ => f54.nat k (R := Res env) g_
  exact rdC
theorem f54.sound (k : Nat) : SoundC env Try.prog 54 (f54.e k).F := soundC_coer (f54.sound0 k) [[.rd 5]]
theorem f54.fnok : FnOK Try.prog 54 := fn_ok Try.func54 (by kernel_rfl) rfl
def f185.step {R : Type} (k : Nat) (ret : (Int × (List Int) × Int × Int) → Option R) (xs1 : List Int) (a2 : Int) (a3 : Int) : Option R :=
  if (decide ((IntKind.i64.wrap (a2 + (1 : Int))) ≤ (((List.length xs1) : Nat) : Int))) = true then
 if (0 : Int) ≤ (IntKind.i64.wrap ((IntKind.i64.wrap (a2 + (1 : Int))) - (1 : Int))) then
 if (IntKind.i64.wrap ((IntKind.i64.wrap (a2 + (1 : Int))) - (1 : Int))) < ((List.length xs1 : Nat) : Int) then
 if (0 : Int) ≤ (IntKind.i64.wrap ((IntKind.i64.wrap (a2 + (1 : Int))) - (1 : Int))) then
 if (IntKind.i64.wrap ((IntKind.i64.wrap (a2 + (1 : Int))) - (1 : Int))) < ((List.length xs1 : Nat) : Int) then
 ret ((IntKind.i64.wrap (List.getD xs1 (Int.toNat (IntKind.i64.wrap ((IntKind.i64.wrap (a2 + (1 : Int))) - (1 : Int)))) (0 : Int))), xs1, (IntKind.i64.wrap (a2 + (1 : Int))), (Int.tmod (IntKind.i64.wrap ((IntKind.i64.wrap ((IntKind.i64.wrap (a3 * (31 : Int))) + (IntKind.i64.wrap (List.getD xs1 (Int.toNat (IntKind.i64.wrap ((IntKind.i64.wrap (a2 + (1 : Int))) - (1 : Int)))) (0 : Int))))) + (7 : Int))) (2147483648 : Int)))
 else none
 else none
 else none
 else none
 else
 if (decide ((IntKind.i64.wrap (a2 + (1 : Int))) > (3000 : Int))) = true then
 ret ((0 : Int), xs1, (IntKind.i64.wrap (a2 + (1 : Int))), a3)
 else
 ret ((Int.tmod (IntKind.i64.wrap (Int.tdiv (Int.tmod (IntKind.i64.wrap ((IntKind.i64.wrap (a3 * (1103515245 : Int))) + (12345 : Int))) (2147483648 : Int)) (65536 : Int))) (256 : Int)), xs1, (IntKind.i64.wrap (a2 + (1 : Int))), (Int.tmod (IntKind.i64.wrap ((IntKind.i64.wrap (a3 * (1103515245 : Int))) + (12345 : Int))) (2147483648 : Int)))
def f185 (k : Nat) (xs1 : List Int) (a2 : Int) (a3 : Int) : Option (Int × (List Int) × Int × Int) := f185.step k some xs1 a2 a3
def f185.w {R : Type} : (Int × (List Int) × Int × Int) → (Res env → Option R) → Option R := fun t4 K => K ⟨.v (.c (.s (.int .i64 t4.1))), [[.sl 5 t4.2.1, .s (.int .i64 t4.2.2.1), .s (.int .i64 t4.2.2.2)]]⟩
theorem f185.wn (x : (Int × (List Int) × Int × Int)) : ∃ res, ∀ {R : Type} (K : Res env → Option R), f185.w x K = K res := by
  exact ⟨_, fun _ => rfl⟩
def f185.hd (k : Nat) (ps_ : List (P2 env)) : Cl env :=
  gC Cl.no ps_ fun p_ ps_ => qP Cl.no p_ fun cs_ => dM Cl.no 5 cs_ fun xs1 cs_ => dI Cl.no cs_ fun a2 cs_ => dI Cl.no cs_ fun a3 cs_ => gE Cl.no cs_ <| gE Cl.no ps_ <| { α := Int × (List Int) × Int × Int, o := f185 k xs1 a2 a3, w := f185.w, nat := fun x _ => f185.wn x }
def f185.e (k : Nat) : Entry env := ⟨fun ps => f185.hd k (coer [[.rd 5, .no, .no]] ps), [], []⟩
def f185.X (k : Nat) : Ctx env := { C := lookE [], L := lookE [], J := lookE [], keep := lookD [], keepX := lookD [], span := lookN [], eff := fun n => memN n [3], prep := lookP [], np := 0 }
theorem f185.nat {R : Type} (k : Nat) (g : _ → Option R) (xs1 a2 a3) : f185.step k g xs1 a2 a3 = (f185 k xs1 a2 a3).bind g := by
  simp only [f185, f185.step, bind_ite, bind_sum, Option.bind_assoc, Option.bind_some, Option.bind_none]
theorem f185.ev (k : Nat) (xs1 : List Int) (a2 : Int) (a3 : Int) : evF (f185.X k) (bodyOf Try.f185) Try.f185.ntmps Try.f185.results.toList [.v (.ptr [.sl 5 xs1, .s (.int .i64 a2), .s (.int .i64 a3)])] = f185.step k (fun x => f185.w x some) xs1 a2 a3 := by kernel_rfl
theorem f185.hok (k : Nat) : HOK (f185.X k) (bodyOf Try.f185) where
  l := allP_mem (by exact trivial)
  j := allP_mem (by exact trivial)
  q := allP_mem (by exact trivial)
theorem f185.sound0 (k : Nat) : SoundC env Try.prog 185 (f185.hd k) := by
  intro ps_
  show GoodC _ _ _ ps_ (f185.hd k ps_)
  unfold f185.hd
  have hF_ := fun_sound envOK (cs_sound _ (by exact trivial)) (f185.hok k) Try.func185 rfl
  have hev_ := f185.ev k
  have hnat_ := fun g_ => f185.nat k (R := Res env) g_
  exact rdC
theorem f185.sound (k : Nat) : SoundC env Try.prog 185 (f185.e k).F := soundC_coer (f185.sound0 k) [[.rd 5, .no, .no]]
theorem f185.fnok : FnOK Try.prog 185 := fn_ok Try.func185 (by kernel_rfl) rfl
def f139.step {R : Type} (k : Nat) (ret : (Int × (List Int) × Int × Int) → Option R) (xs1 : List Int) (a2 : Int) (a3 : Int) (a4 : Int) : Option R :=
  if (decide (a4 ≤ (1 : Int))) = true then
 ret ((0 : Int), xs1, a2, a3)
 else
 if (decide (a4 ≤ (256 : Int))) = true then
 (f185 k xs1 a2 a3).bind fun t5 => if a4 ≠ 0 then
 ret ((Int.tmod t5.1 a4), t5.2.1, t5.2.2.1, t5.2.2.2)
 else none
 else
 (f185 k xs1 a2 a3).bind fun t6 => (f185 k t6.2.1 t6.2.2.1 t6.2.2.2).bind fun t7 => (f185 k t7.2.1 t7.2.2.1 t7.2.2.2).bind fun t8 => if a4 ≠ 0 then
 ret ((Int.tmod (IntKind.i64.wrap ((IntKind.i64.wrap ((IntKind.i64.wrap (t6.1 * (65536 : Int))) + (IntKind.i64.wrap (t7.1 * (256 : Int))))) + t8.1)) a4), t8.2.1, t8.2.2.1, t8.2.2.2)
 else none
def f139 (k : Nat) (xs1 : List Int) (a2 : Int) (a3 : Int) (a4 : Int) : Option (Int × (List Int) × Int × Int) := f139.step k some xs1 a2 a3 a4
def f139.w {R : Type} : (Int × (List Int) × Int × Int) → (Res env → Option R) → Option R := fun t9 K => K ⟨.v (.c (.s (.int .i64 t9.1))), [[.sl 5 t9.2.1, .s (.int .i64 t9.2.2.1), .s (.int .i64 t9.2.2.2)], []]⟩
theorem f139.wn (x : (Int × (List Int) × Int × Int)) : ∃ res, ∀ {R : Type} (K : Res env → Option R), f139.w x K = K res := by
  exact ⟨_, fun _ => rfl⟩
def f139.hd (k : Nat) (ps_ : List (P2 env)) : Cl env :=
  gC Cl.no ps_ fun p_ ps_ => qP Cl.no p_ fun cs_ => dM Cl.no 5 cs_ fun xs1 cs_ => dI Cl.no cs_ fun a2 cs_ => dI Cl.no cs_ fun a3 cs_ => gE Cl.no cs_ <| pI Cl.no ps_ fun a4 ps_ => gE Cl.no ps_ <| { α := Int × (List Int) × Int × Int, o := f139 k xs1 a2 a3 a4, w := f139.w, nat := fun x _ => f139.wn x }
def f139.e (k : Nat) : Entry env := ⟨fun ps => f139.hd k (coer [[.rd 5, .no, .no], [.no]] ps), [], []⟩
def f139.X (k : Nat) : Ctx env := { C := lookE [(185, f185.e k)], L := lookE [], J := lookE [], keep := lookD [], keepX := lookD [], span := lookN [], eff := fun n => memN n [], prep := lookP [], np := 0 }
theorem f139.nat {R : Type} (k : Nat) (g : _ → Option R) (xs1 a2 a3 a4) : f139.step k g xs1 a2 a3 a4 = (f139 k xs1 a2 a3 a4).bind g := by
  simp only [f139, f139.step, bind_ite, bind_sum, Option.bind_assoc, Option.bind_some, Option.bind_none]
theorem f139.ev (k : Nat) (xs1 : List Int) (a2 : Int) (a3 : Int) (a4 : Int) : evF (f139.X k) (bodyOf Try.f139) Try.f139.ntmps Try.f139.results.toList [.v (.ptr [.sl 5 xs1, .s (.int .i64 a2), .s (.int .i64 a3)]), .v (.c (.s (.int .i64 a4)))] = f139.step k (fun x => f139.w x some) xs1 a2 a3 a4 := by kernel_rfl
theorem f139.hok (k : Nat) : HOK (f139.X k) (bodyOf Try.f139) where
  l := allP_mem (by exact trivial)
  j := allP_mem (by exact trivial)
  q := allP_mem (by exact trivial)
theorem f139.sound0 (k : Nat) : SoundC env Try.prog 139 (f139.hd k) := by
  intro ps_
  show GoodC _ _ _ ps_ (f139.hd k ps_)
  unfold f139.hd
  have hF_ := fun_sound envOK (cs_sound _ (by exact ⟨⟨f185.sound k, f185.fnok⟩, trivial⟩)) (f139.hok k) Try.func139 rfl
  have hev_ := f139.ev k
  have hnat_ := fun g_ => f139.nat k (R := Res env) g_
  exact rdC
theorem f139.sound (k : Nat) : SoundC env Try.prog 139 (f139.e k).F := soundC_coer (f139.sound0 k) [[.rd 5, .no, .no], [.no]]
theorem f139.fnok : FnOK Try.prog 139 := fn_ok Try.func139 (by kernel_rfl) rfl
def f137.l2.step {R : Type} (k : Nat) (rec_ : (List S104) → Int → Int → Int → Option R) (ret : (Int ⊕ (Unit)) → Option R) (xs4 : List S104) (a5 : Int) (a6 : Int) (a7 : Int) : Option R :=
  if (decide (a7 < (((List.length xs4) : Nat) : Int))) = true then
 if (0 : Int) ≤ a7 then
 if a7 < ((List.length xs4 : Nat) : Int) then
 if (decide ((List.getD xs4 (Int.toNat a7) (⟨(0 : Int), (0 : Int), (0 : Int), false⟩ : S104)).f0 = a5)) = true then
 if (0 : Int) ≤ a7 then
 if a7 < ((List.length xs4 : Nat) : Int) then
 if (decide ((List.getD xs4 (Int.toNat a7) (⟨(0 : Int), (0 : Int), (0 : Int), false⟩ : S104)).f1 = a6)) = false then
 if (0 : Int) ≤ a7 then
 if a7 < ((List.length xs4 : Nat) : Int) then
 if (decide ((List.getD xs4 (Int.toNat a7) (⟨(0 : Int), (0 : Int), (0 : Int), false⟩ : S104)).f0 = a6)) = true then
 if (0 : Int) ≤ a7 then
 if a7 < ((List.length xs4 : Nat) : Int) then
 if (decide ((List.getD xs4 (Int.toNat a7) (⟨(0 : Int), (0 : Int), (0 : Int), false⟩ : S104)).f1 = a5)) = true then
 ret (.inl a7)
 else
 rec_ xs4 a5 a6 (IntKind.i64.wrap (a7 + (1 : Int)))
 else none
 else none
 else
 rec_ xs4 a5 a6 (IntKind.i64.wrap (a7 + (1 : Int)))
 else none
 else none
 else
 ret (.inl a7)
 else none
 else none
 else
 if (0 : Int) ≤ a7 then
 if a7 < ((List.length xs4 : Nat) : Int) then
 if (decide ((List.getD xs4 (Int.toNat a7) (⟨(0 : Int), (0 : Int), (0 : Int), false⟩ : S104)).f0 = a6)) = true then
 if (0 : Int) ≤ a7 then
 if a7 < ((List.length xs4 : Nat) : Int) then
 if (decide ((List.getD xs4 (Int.toNat a7) (⟨(0 : Int), (0 : Int), (0 : Int), false⟩ : S104)).f1 = a5)) = true then
 ret (.inl a7)
 else
 rec_ xs4 a5 a6 (IntKind.i64.wrap (a7 + (1 : Int)))
 else none
 else none
 else
 rec_ xs4 a5 a6 (IntKind.i64.wrap (a7 + (1 : Int)))
 else none
 else none
 else none
 else none
 else
 ret (.inr ())
def f137.l2 (k : Nat) : Nat → (List S104) → Int → Int → Int → Option (Int ⊕ (Unit))
  | 0, _, _, _, _ => none
  | j + 1, xs4, a5, a6, a7 => f137.l2.step k (fun xs4 a5 a6 a7 => f137.l2 k j xs4 a5 a6 a7) some xs4 a5 a6 a7
def f137.l2.w {R : Type} : (Int ⊕ (Unit)) → (Exit → St env → Option R) → Option R := fun x K => Sum.elim (fun t10 => K .ret ⟨fullT [6] 0 49 [.v (.c (.s (.int .i64 t10)))], [], 723⟩) (fun t11 => K (.exit 0) ⟨fullT [] 0 49 [], [], 723⟩) x
def f137.l2.st (xs4 : List S104) (a5 : Int) (a6 : Int) (a7 : Int) : St env := ⟨fullT [0, 1, 2, 7] 0 49 [.v (.c (.imm 104 xs4)), .v (.c (.s (.int .i64 a5))), .v (.c (.s (.int .i64 a6))), .v (.c (.s (.int .i64 a7)))], [], 35⟩
def f137.l2.hd (k : Nat) (ts_ : List (AV env)) (mm_ : Mem env) (n_ : Nat) : LCl env :=
  gTs Ln [0, 1, 2, 7] 49 ts_ fun l_ => tM Ln 104 l_ fun xs4 l_ => tI Ln l_ fun a5 l_ => tI Ln l_ fun a6 l_ => tI Ln l_ fun a7 l_ => gE Ln l_ <| gE Ln mm_ <| gN Ln 35 n_ { α := Int ⊕ (Unit), o := f137.l2 k k xs4 a5 a6 a7, w := f137.l2.w }
def f137.step {R : Type} (k : Nat) (ret : Int → Option R) (xs1 : List S104) (a2 : Int) (a3 : Int) : Option R :=
  (f137.l2 k k xs1 a2 a3 (0 : Int)).bind (Sum.elim (fun t8 => ret t8) (fun t9 => ret (-1 : Int)))
def f137 (k : Nat) (xs1 : List S104) (a2 : Int) (a3 : Int) : Option Int := f137.step k some xs1 a2 a3
def f137.w {R : Type} : Int → (Res env → Option R) → Option R := fun t12 K => K ⟨.v (.c (.s (.int .i64 t12))), [[], [], []]⟩
theorem f137.wn (x : Int) : ∃ res, ∀ {R : Type} (K : Res env → Option R), f137.w x K = K res := by
  exact ⟨_, fun _ => rfl⟩
def f137.hd (k : Nat) (ps_ : List (P2 env)) : Cl env :=
  pM Cl.no 104 ps_ fun xs1 ps_ => pI Cl.no ps_ fun a2 ps_ => pI Cl.no ps_ fun a3 ps_ => gE Cl.no ps_ <| { α := Int, o := f137 k xs1 a2 a3, w := f137.w, nat := fun x _ => f137.wn x }
def f137.e (k : Nat) : Entry env := ⟨fun ps => f137.hd k (coer [[.rd 104], [.no], [.no]] ps), [], []⟩
def f137.X (k : Nat) : Ctx env := { C := lookE [], L := lookE [(2, fun S => f137.l2.hd k S.ts S.m S.n)], J := lookE [], keep := lookD [(2, [0, 1, 2, 7])], keepX := lookD [(2, [6])], span := lookN [(2, 688)], eff := fun n => memN n [], prep := lookP [], np := 0 }
theorem f137.l2.nat {R : Type} (k : Nat) (rec_) (g : _ → Option R) (xs4 a5 a6 a7) : (f137.l2.step k rec_ some xs4 a5 a6 a7).bind g = f137.l2.step k (fun xs4 a5 a6 a7 => (rec_ xs4 a5 a6 a7).bind g) g xs4 a5 a6 a7 := by
  simp only [f137.l2.step, bind_ite, bind_sum, Option.bind_assoc, Option.bind_some, Option.bind_none]
theorem f137.l2.good (k : Nat) (xs4 a5 a6 a7) : GoodL (f137.X k) (nthC 0 (loopsOf (bodyOf Try.f137))) (f137.l2.st xs4 a5 a6 a7) { α := _, o := f137.l2 k k xs4 a5 a6 a7, w := f137.l2.w } :=
  loop_good (ι := (List S104) × Int × Int × Int) (α := (Int ⊕ (Unit))) (fun i => f137.l2.st i.1 i.2.1 i.2.2.1 i.2.2.2) (fun j i => f137.l2 k j i.1 i.2.1 i.2.2.1 i.2.2.2) f137.l2.w (fun rec_ ret i => f137.l2.step k (fun xs4 a5 a6 a7 => rec_ (xs4, a5, a6, a7)) ret i.1 i.2.1 i.2.2.1 i.2.2.2)
    (fun _ => rfl) (fun _ _ => rfl) (fun rec_ g i => f137.l2.nat k _ g i.1 i.2.1 i.2.2.1 i.2.2.2) (fun {R} i0 i rec_ K => by kernel_rfl) k (xs4, a5, a6, a7)
theorem f137.l2.all (k : Nat) (S : St env) : GoodL (f137.X k) (nthC 0 (loopsOf (bodyOf Try.f137))) S (f137.l2.hd k S.ts S.m S.n) := by
  obtain ⟨ts_, m_, n_⟩ := S
  show GoodL _ _ _ (f137.l2.hd k ts_ m_ n_)
  unfold f137.l2.hd
  have hg_ := f137.l2.good k
  exact rdL
theorem f137.nat {R : Type} (k : Nat) (g : _ → Option R) (xs1 a2 a3) : f137.step k g xs1 a2 a3 = (f137 k xs1 a2 a3).bind g := by
  simp only [f137, f137.step, bind_ite, bind_sum, Option.bind_assoc, Option.bind_some, Option.bind_none]
theorem f137.ev (k : Nat) (xs1 : List S104) (a2 : Int) (a3 : Int) : evF (f137.X k) (bodyOf Try.f137) Try.f137.ntmps Try.f137.results.toList [.v (.c (.sl 104 xs1)), .v (.c (.s (.int .i64 a2))), .v (.c (.s (.int .i64 a3)))] = f137.step k (fun x => f137.w x some) xs1 a2 a3 := by kernel_rfl
theorem f137.hok (k : Nat) : HOK (f137.X k) (bodyOf Try.f137) where
  l := allP_mem (by exact ⟨ls_of (h0 := fun S => f137.l2.hd k S.ts S.m S.n) (by kernel_rfl) (f137.l2.all k), trivial⟩)
  j := allP_mem (by exact trivial)
  q := allP_mem (by exact trivial)
theorem f137.sound0 (k : Nat) : SoundC env Try.prog 137 (f137.hd k) := by
  intro ps_
  show GoodC _ _ _ ps_ (f137.hd k ps_)
  unfold f137.hd
  have hF_ := fun_sound envOK (cs_sound _ (by exact trivial)) (f137.hok k) Try.func137 rfl
  have hev_ := f137.ev k
  have hnat_ := fun g_ => f137.nat k (R := Res env) g_
  exact rdC
theorem f137.sound (k : Nat) : SoundC env Try.prog 137 (f137.e k).F := soundC_coer (f137.sound0 k) [[.rd 104], [.no], [.no]]
theorem f137.fnok : FnOK Try.prog 137 := fn_ok Try.func137 (by kernel_rfl) rfl
def f170.step {R : Type} (k : Nat) (ret : (Bool × (List Int) × Int × Int) → Option R) (xs1 : List Int) (a2 : Int) (a3 : Int) (a4 : Int) : Option R :=
  (f139 k xs1 a2 a3 a4).bind fun t5 => ret ((decide (t5.1 = (IntKind.i64.wrap (a4 - (1 : Int))))), t5.2.1, t5.2.2.1, t5.2.2.2)
def f170 (k : Nat) (xs1 : List Int) (a2 : Int) (a3 : Int) (a4 : Int) : Option (Bool × (List Int) × Int × Int) := f170.step k some xs1 a2 a3 a4
def f170.w {R : Type} : (Bool × (List Int) × Int × Int) → (Res env → Option R) → Option R := fun t6 K => K ⟨.v (.c (.s (.bool t6.1))), [[.sl 5 t6.2.1, .s (.int .i64 t6.2.2.1), .s (.int .i64 t6.2.2.2)], []]⟩
theorem f170.wn (x : (Bool × (List Int) × Int × Int)) : ∃ res, ∀ {R : Type} (K : Res env → Option R), f170.w x K = K res := by
  exact ⟨_, fun _ => rfl⟩
def f170.hd (k : Nat) (ps_ : List (P2 env)) : Cl env :=
  gC Cl.no ps_ fun p_ ps_ => qP Cl.no p_ fun cs_ => dM Cl.no 5 cs_ fun xs1 cs_ => dI Cl.no cs_ fun a2 cs_ => dI Cl.no cs_ fun a3 cs_ => gE Cl.no cs_ <| pI Cl.no ps_ fun a4 ps_ => gE Cl.no ps_ <| { α := Bool × (List Int) × Int × Int, o := f170 k xs1 a2 a3 a4, w := f170.w, nat := fun x _ => f170.wn x }
def f170.e (k : Nat) : Entry env := ⟨fun ps => f170.hd k (coer [[.rd 5, .no, .no], [.no]] ps), [], []⟩
def f170.X (k : Nat) : Ctx env := { C := lookE [(139, f139.e k)], L := lookE [], J := lookE [], keep := lookD [], keepX := lookD [], span := lookN [], eff := fun n => memN n [], prep := lookP [], np := 0 }
theorem f170.nat {R : Type} (k : Nat) (g : _ → Option R) (xs1 a2 a3 a4) : f170.step k g xs1 a2 a3 a4 = (f170 k xs1 a2 a3 a4).bind g := by
  simp only [f170, f170.step, bind_ite, bind_sum, Option.bind_assoc, Option.bind_some, Option.bind_none]
theorem f170.ev (k : Nat) (xs1 : List Int) (a2 : Int) (a3 : Int) (a4 : Int) : evF (f170.X k) (bodyOf Try.f170) Try.f170.ntmps Try.f170.results.toList [.v (.ptr [.sl 5 xs1, .s (.int .i64 a2), .s (.int .i64 a3)]), .v (.c (.s (.int .i64 a4)))] = f170.step k (fun x => f170.w x some) xs1 a2 a3 a4 := by kernel_rfl
theorem f170.hok (k : Nat) : HOK (f170.X k) (bodyOf Try.f170) where
  l := allP_mem (by exact trivial)
  j := allP_mem (by exact trivial)
  q := allP_mem (by exact trivial)
theorem f170.sound0 (k : Nat) : SoundC env Try.prog 170 (f170.hd k) := by
  intro ps_
  show GoodC _ _ _ ps_ (f170.hd k ps_)
  unfold f170.hd
  have hF_ := fun_sound envOK (cs_sound _ (by exact ⟨⟨f139.sound k, f139.fnok⟩, trivial⟩)) (f170.hok k) Try.func170 rfl
  have hev_ := f170.ev k
  have hnat_ := fun g_ => f170.nat k (R := Res env) g_
  exact rdC
theorem f170.sound (k : Nat) : SoundC env Try.prog 170 (f170.e k).F := soundC_coer (f170.sound0 k) [[.rd 5, .no, .no], [.no]]
theorem f170.fnok : FnOK Try.prog 170 := fn_ok Try.func170 (by kernel_rfl) rfl
def f129.l4.step {R : Type} (k : Nat) (rec_ : Int → Int → (List Int) → Int → Int → (List S104) → Option R) (ret : (Int × (List Int) × Int × Int × (List S104)) → Option R) (a6 : Int) (a7 : Int) (xs8 : List Int) (a9 : Int) (a10 : Int) (xs11 : List S104) : Option R :=
  if (decide (a7 > (0 : Int))) = true then
 if (decide (a6 > (1 : Int))) = true then
 (f139 k xs8 a9 a10 a6).bind fun t12 => (f139 k t12.2.1 t12.2.2.1 t12.2.2.2 a6).bind fun t13 => if (decide (t12.1 ≠ t13.1)) = true then
 (f137 k xs11 t12.1 t13.1).bind fun t14 => if (decide (t14 < (0 : Int))) = true then
 if (decide ((((List.length xs11) : Nat) : Int) < (8 : Int))) = true then
 (f139 k t13.2.1 t13.2.2.1 t13.2.2.2 (5 : Int)).bind fun t15 => if (0 : Int) ≤ t15.1 then
 if t15.1 < ((List.length ([(1 : Int), (1 : Int), (2 : Int), (5 : Int), (16 : Int)] : List Int) : Nat) : Int) then
 (f170 k t15.2.1 t15.2.2.1 t15.2.2.2 (4 : Int)).bind fun t16 => if (List.length xs11 + List.length ([(⟨t12.1, t13.1, (List.getD ([(1 : Int), (1 : Int), (2 : Int), (5 : Int), (16 : Int)] : List Int) (Int.toNat t15.1) (0 : Int)), (!t16.1)⟩ : S104)] : List S104)) * 32 ≤ maxN then
 rec_ a6 (IntKind.i64.wrap (a7 - (1 : Int))) t16.2.1 t16.2.2.1 t16.2.2.2 (xs11 ++ ([(⟨t12.1, t13.1, (List.getD ([(1 : Int), (1 : Int), (2 : Int), (5 : Int), (16 : Int)] : List Int) (Int.toNat t15.1) (0 : Int)), (!t16.1)⟩ : S104)] : List S104))
 else none
 else none
 else none
 else
 rec_ a6 (IntKind.i64.wrap (a7 - (1 : Int))) t13.2.1 t13.2.2.1 t13.2.2.2 xs11
 else
 rec_ a6 (IntKind.i64.wrap (a7 - (1 : Int))) t13.2.1 t13.2.2.1 t13.2.2.2 xs11
 else
 rec_ a6 (IntKind.i64.wrap (a7 - (1 : Int))) t13.2.1 t13.2.2.1 t13.2.2.2 xs11
 else
 ret (a6, xs8, a9, a10, xs11)
 else
 ret (a6, xs8, a9, a10, xs11)
def f129.l4 (k : Nat) : Nat → Int → Int → (List Int) → Int → Int → (List S104) → Option (Int × (List Int) × Int × Int × (List S104))
  | 0, _, _, _, _, _, _ => none
  | j + 1, a6, a7, xs8, a9, a10, xs11 => f129.l4.step k (fun a6 a7 xs8 a9 a10 xs11 => f129.l4 k j a6 a7 xs8 a9 a10 xs11) some a6 a7 xs8 a9 a10 xs11
def f129.l4.w {R : Type} : (Int × (List Int) × Int × Int × (List S104)) → (Exit → St env → Option R) → Option R := fun t18 K => K (.exit 0) ⟨fullT [0, 4, 5] 0 60 [.v (.c (.bp 0 0)), .v (.c (.s (.int .i64 t18.1))), .v (.c (.row 97))], [(0, .box [.imm 5 t18.2.1, .s (.int .i64 t18.2.2.1), .s (.int .i64 t18.2.2.2.1)]), (97, .row true 104 t18.2.2.2.2)], 929⟩
def f129.l4.st (a6 : Int) (a7 : Int) (xs8 : List Int) (a9 : Int) (a10 : Int) (xs11 : List S104) : St env := ⟨fullT [0, 4, 5, 6] 0 60 [.v (.c (.bp 0 0)), .v (.c (.s (.int .i64 a6))), .v (.c (.row 97)), .v (.c (.s (.int .i64 a7)))], [(0, .box [.imm 5 xs8, .s (.int .i64 a9), .s (.int .i64 a10)]), (97, .row true 104 xs11)], 177⟩
def f129.l4.hd (k : Nat) (ts_ : List (AV env)) (mm_ : Mem env) (n_ : Nat) : LCl env :=
  gTs Ln [0, 4, 5, 6] 60 ts_ fun l_ => tP Ln 0 l_ fun l_ => tI Ln l_ fun a6 l_ => tR Ln 97 l_ fun l_ => tI Ln l_ fun a7 l_ => gE Ln l_ <| mBox Ln 0 mm_ fun c_ m_ => cM Ln 5 c_ fun xs8 c_ => cI Ln c_ fun a9 c_ => cI Ln c_ fun a10 c_ => gE Ln c_ <| mRow Ln 97 true 104 m_ fun xs11 m_ => gE Ln m_ <| gN Ln 177 n_ { α := Int × (List Int) × Int × Int × (List S104), o := f129.l4 k k a6 a7 xs8 a9 a10 xs11, w := f129.l4.w }
def f129.step {R : Type} (k : Nat) (ret : (Int × (List S104) × (List Int) × Int × Int) → Option R) (xs1 : List Int) (a2 : Int) (a3 : Int) : Option R :=
  (f139 k xs1 a2 a3 (5 : Int)).bind fun t4 => (f139 k t4.2.1 t4.2.2.1 t4.2.2.2 (10 : Int)).bind fun t5 => (f129.l4 k k (IntKind.i64.wrap ((1 : Int) + t4.1)) t5.1 t5.2.1 t5.2.2.1 t5.2.2.2 ([] : List S104)).bind fun t17 => ret (t17.1, t17.2.2.2.2, t17.2.1, t17.2.2.1, t17.2.2.2.1)
def f129 (k : Nat) (xs1 : List Int) (a2 : Int) (a3 : Int) : Option (Int × (List S104) × (List Int) × Int × Int) := f129.step k some xs1 a2 a3
def f129.w {R : Type} : (Int × (List S104) × (List Int) × Int × Int) → (Res env → Option R) → Option R := fun t19 K => K ⟨.tup [.c (.s (.int .i64 t19.1)), .c (.own true 104 t19.2.1)], [[.sl 5 t19.2.2.1, .s (.int .i64 t19.2.2.2.1), .s (.int .i64 t19.2.2.2.2)]]⟩
theorem f129.wn (x : (Int × (List S104) × (List Int) × Int × Int)) : ∃ res, ∀ {R : Type} (K : Res env → Option R), f129.w x K = K res := by
  exact ⟨_, fun _ => rfl⟩
def f129.hd (k : Nat) (ps_ : List (P2 env)) : Cl env :=
  gC Cl.no ps_ fun p_ ps_ => qP Cl.no p_ fun cs_ => dM Cl.no 5 cs_ fun xs1 cs_ => dI Cl.no cs_ fun a2 cs_ => dI Cl.no cs_ fun a3 cs_ => gE Cl.no cs_ <| gE Cl.no ps_ <| { α := Int × (List S104) × (List Int) × Int × Int, o := f129 k xs1 a2 a3, w := f129.w, nat := fun x _ => f129.wn x }
def f129.e (k : Nat) : Entry env := ⟨fun ps => f129.hd k (coer [[.rd 5, .no, .no]] ps), [], []⟩
def f129.X (k : Nat) : Ctx env := { C := lookE [(137, f137.e k), (139, f139.e k), (170, f170.e k)], L := lookE [(4, fun S => f129.l4.hd k S.ts S.m S.n)], J := lookE [], keep := lookD [(4, [0, 4, 5, 6])], keepX := lookD [(4, [0, 4, 5])], span := lookN [(4, 752)], eff := fun n => memN n [9], prep := lookP [], np := 0 }
theorem f129.l4.nat {R : Type} (k : Nat) (rec_) (g : _ → Option R) (a6 a7 xs8 a9 a10 xs11) : (f129.l4.step k rec_ some a6 a7 xs8 a9 a10 xs11).bind g = f129.l4.step k (fun a6 a7 xs8 a9 a10 xs11 => (rec_ a6 a7 xs8 a9 a10 xs11).bind g) g a6 a7 xs8 a9 a10 xs11 := by
  simp only [f129.l4.step, bind_ite, bind_sum, Option.bind_assoc, Option.bind_some, Option.bind_none]
theorem f129.l4.good (k : Nat) (a6 a7 xs8 a9 a10 xs11) : GoodL (f129.X k) (nthC 0 (loopsOf (bodyOf Try.f129))) (f129.l4.st a6 a7 xs8 a9 a10 xs11) { α := _, o := f129.l4 k k a6 a7 xs8 a9 a10 xs11, w := f129.l4.w } :=
  loop_good (ι := Int × Int × (List Int) × Int × Int × (List S104)) (α := (Int × (List Int) × Int × Int × (List S104))) (fun i => f129.l4.st i.1 i.2.1 i.2.2.1 i.2.2.2.1 i.2.2.2.2.1 i.2.2.2.2.2) (fun j i => f129.l4 k j i.1 i.2.1 i.2.2.1 i.2.2.2.1 i.2.2.2.2.1 i.2.2.2.2.2) f129.l4.w (fun rec_ ret i => f129.l4.step k (fun a6 a7 xs8 a9 a10 xs11 => rec_ (a6, a7, xs8, a9, a10, xs11)) ret i.1 i.2.1 i.2.2.1 i.2.2.2.1 i.2.2.2.2.1 i.2.2.2.2.2)
    (fun _ => rfl) (fun _ _ => rfl) (fun rec_ g i => f129.l4.nat k _ g i.1 i.2.1 i.2.2.1 i.2.2.2.1 i.2.2.2.2.1 i.2.2.2.2.2) (fun {R} i0 i rec_ K => by kernel_rfl) k (a6, a7, xs8, a9, a10, xs11)
theorem f129.l4.all (k : Nat) (S : St env) : GoodL (f129.X k) (nthC 0 (loopsOf (bodyOf Try.f129))) S (f129.l4.hd k S.ts S.m S.n) := by
  obtain ⟨ts_, m_, n_⟩ := S
  show GoodL _ _ _ (f129.l4.hd k ts_ m_ n_)
  unfold f129.l4.hd
  have hg_ := f129.l4.good k
  exact rdL
theorem f129.nat {R : Type} (k : Nat) (g : _ → Option R) (xs1 a2 a3) : f129.step k g xs1 a2 a3 = (f129 k xs1 a2 a3).bind g := by
  simp only [f129, f129.step, bind_ite, bind_sum, Option.bind_assoc, Option.bind_some, Option.bind_none]
theorem f129.ev (k : Nat) (xs1 : List Int) (a2 : Int) (a3 : Int) : evF (f129.X k) (bodyOf Try.f129) Try.f129.ntmps Try.f129.results.toList [.v (.ptr [.sl 5 xs1, .s (.int .i64 a2), .s (.int .i64 a3)])] = f129.step k (fun x => f129.w x some) xs1 a2 a3 := by kernel_rfl
theorem f129.hok (k : Nat) : HOK (f129.X k) (bodyOf Try.f129) where
  l := allP_mem (by exact ⟨ls_of (h0 := fun S => f129.l4.hd k S.ts S.m S.n) (by kernel_rfl) (f129.l4.all k), trivial⟩)
  j := allP_mem (by exact trivial)
  q := allP_mem (by exact trivial)
theorem f129.sound0 (k : Nat) : SoundC env Try.prog 129 (f129.hd k) := by
  intro ps_
  show GoodC _ _ _ ps_ (f129.hd k ps_)
  unfold f129.hd
  have hF_ := fun_sound envOK (cs_sound _ (by exact ⟨⟨f137.sound k, f137.fnok⟩, ⟨f139.sound k, f139.fnok⟩, ⟨f170.sound k, f170.fnok⟩, trivial⟩)) (f129.hok k) Try.func129 rfl
  have hev_ := f129.ev k
  have hnat_ := fun g_ => f129.nat k (R := Res env) g_
  exact rdC
theorem f129.sound (k : Nat) : SoundC env Try.prog 129 (f129.e k).F := soundC_coer (f129.sound0 k) [[.rd 5, .no, .no]]
theorem f129.fnok : FnOK Try.prog 129 := fn_ok Try.func129 (by kernel_rfl) rfl
def f61.step {R : Type} (k : Nat) (ret : Bool → Option R) (a1 : Int) (a2 : Int) (a3 : Int) : Option R :=
  if (decide (a1 ≥ a2)) = true then
 ret (decide (a1 ≤ a3))
 else
 ret false
def f61 (k : Nat) (a1 : Int) (a2 : Int) (a3 : Int) : Option Bool := f61.step k some a1 a2 a3
def f61.w {R : Type} : Bool → (Res env → Option R) → Option R := fun t4 K => K ⟨.v (.c (.s (.bool t4))), [[], [], []]⟩
theorem f61.wn (x : Bool) : ∃ res, ∀ {R : Type} (K : Res env → Option R), f61.w x K = K res := by
  exact ⟨_, fun _ => rfl⟩
def f61.hd (k : Nat) (ps_ : List (P2 env)) : Cl env :=
  pI Cl.no ps_ fun a1 ps_ => pI Cl.no ps_ fun a2 ps_ => pI Cl.no ps_ fun a3 ps_ => gE Cl.no ps_ <| { α := Bool, o := f61 k a1 a2 a3, w := f61.w, nat := fun x _ => f61.wn x }
def f61.e (k : Nat) : Entry env := ⟨f61.hd k, [], []⟩
def f61.X (k : Nat) : Ctx env := { C := lookE [], L := lookE [], J := lookE [], keep := lookD [], keepX := lookD [], span := lookN [], eff := fun n => memN n [], prep := lookP [], np := 0 }
theorem f61.nat {R : Type} (k : Nat) (g : _ → Option R) (a1 a2 a3) : f61.step k g a1 a2 a3 = (f61 k a1 a2 a3).bind g := by
  simp only [f61, f61.step, bind_ite, bind_sum, Option.bind_assoc, Option.bind_some, Option.bind_none]
theorem f61.ev (k : Nat) (a1 : Int) (a2 : Int) (a3 : Int) : evF (f61.X k) (bodyOf Try.f61) Try.f61.ntmps Try.f61.results.toList [.v (.c (.s (.int .i64 a1))), .v (.c (.s (.int .i64 a2))), .v (.c (.s (.int .i64 a3)))] = f61.step k (fun x => f61.w x some) a1 a2 a3 := by kernel_rfl
theorem f61.hok (k : Nat) : HOK (f61.X k) (bodyOf Try.f61) where
  l := allP_mem (by exact trivial)
  j := allP_mem (by exact trivial)
  q := allP_mem (by exact trivial)
theorem f61.sound (k : Nat) : SoundC env Try.prog 61 ((f61.e k).F) := by
  intro ps_
  show GoodC _ _ _ ps_ (f61.hd k ps_)
  unfold f61.hd
  have hF_ := fun_sound envOK (cs_sound _ (by exact trivial)) (f61.hok k) Try.func61 rfl
  have hev_ := f61.ev k
  have hnat_ := fun g_ => f61.nat k (R := Res env) g_
  exact rdC
theorem f61.fnok : FnOK Try.prog 61 := fn_ok Try.func61 (by kernel_rfl) rfl
def f135.l4.step {R : Type} (k : Nat) (rec_ : Int → (List S104) → Int → Option R) (ret : (Bool ⊕ (Unit)) → Option R) (a4 : Int) (xs5 : List S104) (a6 : Int) : Option R :=
  if (decide (a6 < (((List.length xs5) : Nat) : Int))) = true then
 if (0 : Int) ≤ a6 then
 if a6 < ((List.length xs5 : Nat) : Int) then
 (f61 k (List.getD xs5 (Int.toNat a6) (⟨(0 : Int), (0 : Int), (0 : Int), false⟩ : S104)).f0 (0 : Int) (IntKind.i64.wrap (a4 - (1 : Int)))).bind fun t7 => if (!t7) = false then
 (f61 k (List.getD xs5 (Int.toNat a6) (⟨(0 : Int), (0 : Int), (0 : Int), false⟩ : S104)).f1 (0 : Int) (IntKind.i64.wrap (a4 - (1 : Int)))).bind fun t8 => if (!t8) = false then
 if (decide ((List.getD xs5 (Int.toNat a6) (⟨(0 : Int), (0 : Int), (0 : Int), false⟩ : S104)).f0 = (List.getD xs5 (Int.toNat a6) (⟨(0 : Int), (0 : Int), (0 : Int), false⟩ : S104)).f1)) = false then
 (f61 k (List.getD xs5 (Int.toNat a6) (⟨(0 : Int), (0 : Int), (0 : Int), false⟩ : S104)).f2 (1 : Int) (16 : Int)).bind fun t9 => if (!t9) = false then
 if (0 : Int) ≤ a6 then
 if a6 ≤ ((List.length xs5 : Nat) : Int) then
 (f137 k (List.drop 0 (List.take (Int.toNat a6) xs5)) (List.getD xs5 (Int.toNat a6) (⟨(0 : Int), (0 : Int), (0 : Int), false⟩ : S104)).f0 (List.getD xs5 (Int.toNat a6) (⟨(0 : Int), (0 : Int), (0 : Int), false⟩ : S104)).f1).bind fun t10 => if (decide (t10 ≥ (0 : Int))) = true then
 ret (.inl false)
 else
 rec_ a4 xs5 (IntKind.i64.wrap (a6 + (1 : Int)))
 else none
 else none
 else
 ret (.inl false)
 else
 ret (.inl false)
 else
 ret (.inl false)
 else
 ret (.inl false)
 else none
 else none
 else
 ret (.inr ())
def f135.l4 (k : Nat) : Nat → Int → (List S104) → Int → Option (Bool ⊕ (Unit))
  | 0, _, _, _ => none
  | j + 1, a4, xs5, a6 => f135.l4.step k (fun a4 xs5 a6 => f135.l4 k j a4 xs5 a6) some a4 xs5 a6
def f135.l4.w {R : Type} : (Bool ⊕ (Unit)) → (Exit → St env → Option R) → Option R := fun x K => Sum.elim (fun t13 => K .ret ⟨fullT [4] 0 63 [.v (.c (.s (.bool t13)))], [], 994⟩) (fun t14 => K (.exit 0) ⟨fullT [] 0 63 [], [], 994⟩) x
def f135.l4.st (a4 : Int) (xs5 : List S104) (a6 : Int) : St env := ⟨fullT [0, 1, 5] 0 63 [.v (.c (.s (.int .i64 a4))), .v (.c (.imm 104 xs5)), .v (.c (.s (.int .i64 a6)))], [], 162⟩
def f135.l4.hd (k : Nat) (ts_ : List (AV env)) (mm_ : Mem env) (n_ : Nat) : LCl env :=
  gTs Ln [0, 1, 5] 63 ts_ fun l_ => tI Ln l_ fun a4 l_ => tM Ln 104 l_ fun xs5 l_ => tI Ln l_ fun a6 l_ => gE Ln l_ <| gE Ln mm_ <| gN Ln 162 n_ { α := Bool ⊕ (Unit), o := f135.l4 k k a4 xs5 a6, w := f135.l4.w }
def f135.step {R : Type} (k : Nat) (ret : Bool → Option R) (a1 : Int) (xs2 : List S104) : Option R :=
  (f61 k a1 (1 : Int) (5 : Int)).bind fun t3 => if (!t3) = false then
 if (decide ((((List.length xs2) : Nat) : Int) > (8 : Int))) = true then
 ret false
 else
 (f135.l4 k k a1 xs2 (0 : Int)).bind (Sum.elim (fun t11 => ret t11) (fun t12 => ret true))
 else
 ret false
def f135 (k : Nat) (a1 : Int) (xs2 : List S104) : Option Bool := f135.step k some a1 xs2
def f135.w {R : Type} : Bool → (Res env → Option R) → Option R := fun t15 K => K ⟨.v (.c (.s (.bool t15))), [[], []]⟩
theorem f135.wn (x : Bool) : ∃ res, ∀ {R : Type} (K : Res env → Option R), f135.w x K = K res := by
  exact ⟨_, fun _ => rfl⟩
def f135.hd (k : Nat) (ps_ : List (P2 env)) : Cl env :=
  pI Cl.no ps_ fun a1 ps_ => pM Cl.no 104 ps_ fun xs2 ps_ => gE Cl.no ps_ <| { α := Bool, o := f135 k a1 xs2, w := f135.w, nat := fun x _ => f135.wn x }
def f135.e (k : Nat) : Entry env := ⟨fun ps => f135.hd k (coer [[.no], [.rd 104]] ps), [], []⟩
def f135.X (k : Nat) : Ctx env := { C := lookE [(61, f61.e k), (137, f137.e k)], L := lookE [(4, fun S => f135.l4.hd k S.ts S.m S.n)], J := lookE [], keep := lookD [(4, [0, 1, 5])], keepX := lookD [(4, [4])], span := lookN [(4, 832)], eff := fun n => memN n [], prep := lookP [], np := 0 }
theorem f135.l4.nat {R : Type} (k : Nat) (rec_) (g : _ → Option R) (a4 xs5 a6) : (f135.l4.step k rec_ some a4 xs5 a6).bind g = f135.l4.step k (fun a4 xs5 a6 => (rec_ a4 xs5 a6).bind g) g a4 xs5 a6 := by
  simp only [f135.l4.step, bind_ite, bind_sum, Option.bind_assoc, Option.bind_some, Option.bind_none]
theorem f135.l4.good (k : Nat) (a4 xs5 a6) : GoodL (f135.X k) (nthC 0 (loopsOf (bodyOf Try.f135))) (f135.l4.st a4 xs5 a6) { α := _, o := f135.l4 k k a4 xs5 a6, w := f135.l4.w } :=
  loop_good (ι := Int × (List S104) × Int) (α := (Bool ⊕ (Unit))) (fun i => f135.l4.st i.1 i.2.1 i.2.2) (fun j i => f135.l4 k j i.1 i.2.1 i.2.2) f135.l4.w (fun rec_ ret i => f135.l4.step k (fun a4 xs5 a6 => rec_ (a4, xs5, a6)) ret i.1 i.2.1 i.2.2)
    (fun _ => rfl) (fun _ _ => rfl) (fun rec_ g i => f135.l4.nat k _ g i.1 i.2.1 i.2.2) (fun {R} i0 i rec_ K => by kernel_rfl) k (a4, xs5, a6)
theorem f135.l4.all (k : Nat) (S : St env) : GoodL (f135.X k) (nthC 0 (loopsOf (bodyOf Try.f135))) S (f135.l4.hd k S.ts S.m S.n) := by
  obtain ⟨ts_, m_, n_⟩ := S
  show GoodL _ _ _ (f135.l4.hd k ts_ m_ n_)
  unfold f135.l4.hd
  have hg_ := f135.l4.good k
  exact rdL
theorem f135.nat {R : Type} (k : Nat) (g : _ → Option R) (a1 xs2) : f135.step k g a1 xs2 = (f135 k a1 xs2).bind g := by
  simp only [f135, f135.step, bind_ite, bind_sum, Option.bind_assoc, Option.bind_some, Option.bind_none]
theorem f135.ev (k : Nat) (a1 : Int) (xs2 : List S104) : evF (f135.X k) (bodyOf Try.f135) Try.f135.ntmps Try.f135.results.toList [.v (.c (.s (.int .i64 a1))), .v (.c (.sl 104 xs2))] = f135.step k (fun x => f135.w x some) a1 xs2 := by kernel_rfl
theorem f135.hok (k : Nat) : HOK (f135.X k) (bodyOf Try.f135) where
  l := allP_mem (by exact ⟨ls_of (h0 := fun S => f135.l4.hd k S.ts S.m S.n) (by kernel_rfl) (f135.l4.all k), trivial⟩)
  j := allP_mem (by exact trivial)
  q := allP_mem (by exact trivial)
theorem f135.sound0 (k : Nat) : SoundC env Try.prog 135 (f135.hd k) := by
  intro ps_
  show GoodC _ _ _ ps_ (f135.hd k ps_)
  unfold f135.hd
  have hF_ := fun_sound envOK (cs_sound _ (by exact ⟨⟨f61.sound k, f61.fnok⟩, ⟨f137.sound k, f137.fnok⟩, trivial⟩)) (f135.hok k) Try.func135 rfl
  have hev_ := f135.ev k
  have hnat_ := fun g_ => f135.nat k (R := Res env) g_
  exact rdC
theorem f135.sound (k : Nat) : SoundC env Try.prog 135 (f135.e k).F := soundC_coer (f135.sound0 k) [[.no], [.rd 104]]
theorem f135.fnok : FnOK Try.prog 135 := fn_ok Try.func135 (by kernel_rfl) rfl
def f136.step {R : Type} (k : Nat) (ret : (Int × Int × Int) → Option R) (a1 : Int) (a2 : Int) : Option R :=
  if (decide (a1 = a2)) = true then
 ret ((0 : Int), a1, (0 : Int))
 else
 ret ((16 : Int), (-1 : Int), (0 : Int))
def f136 (k : Nat) (a1 : Int) (a2 : Int) : Option (Int × Int × Int) := f136.step k some a1 a2
def f136.w {R : Type} : (Int × Int × Int) → (Res env → Option R) → Option R := fun t3 K => K ⟨.v (.g [.s (.int .i64 t3.1), .s (.int .i64 t3.2.1), .s (.int .i64 t3.2.2)]), [[], []]⟩
theorem f136.wn (x : (Int × Int × Int)) : ∃ res, ∀ {R : Type} (K : Res env → Option R), f136.w x K = K res := by
  exact ⟨_, fun _ => rfl⟩
def f136.hd (k : Nat) (ps_ : List (P2 env)) : Cl env :=
  pI Cl.no ps_ fun a1 ps_ => pI Cl.no ps_ fun a2 ps_ => gE Cl.no ps_ <| { α := Int × Int × Int, o := f136 k a1 a2, w := f136.w, nat := fun x _ => f136.wn x }
def f136.e (k : Nat) : Entry env := ⟨f136.hd k, [], []⟩
def f136.X (k : Nat) : Ctx env := { C := lookE [], L := lookE [], J := lookE [], keep := lookD [], keepX := lookD [], span := lookN [], eff := fun n => memN n [], prep := lookP [], np := 0 }
theorem f136.nat {R : Type} (k : Nat) (g : _ → Option R) (a1 a2) : f136.step k g a1 a2 = (f136 k a1 a2).bind g := by
  simp only [f136, f136.step, bind_ite, bind_sum, Option.bind_assoc, Option.bind_some, Option.bind_none]
theorem f136.ev (k : Nat) (a1 : Int) (a2 : Int) : evF (f136.X k) (bodyOf Try.f136) Try.f136.ntmps Try.f136.results.toList [.v (.c (.s (.int .i64 a1))), .v (.c (.s (.int .i64 a2)))] = f136.step k (fun x => f136.w x some) a1 a2 := by kernel_rfl
theorem f136.hok (k : Nat) : HOK (f136.X k) (bodyOf Try.f136) where
  l := allP_mem (by exact trivial)
  j := allP_mem (by exact trivial)
  q := allP_mem (by exact trivial)
theorem f136.sound (k : Nat) : SoundC env Try.prog 136 ((f136.e k).F) := by
  intro ps_
  show GoodC _ _ _ ps_ (f136.hd k ps_)
  unfold f136.hd
  have hF_ := fun_sound envOK (cs_sound _ (by exact trivial)) (f136.hok k) Try.func136 rfl
  have hev_ := f136.ev k
  have hnat_ := fun g_ => f136.nat k (R := Res env) g_
  exact rdC
theorem f136.fnok : FnOK Try.prog 136 := fn_ok Try.func136 (by kernel_rfl) rfl
def f130.l11.step {R : Type} (k : Nat) (rec_ : Int → Int → Int → Int → (List S104) → Int → (List (List S174)) → (List S174) → Option R) (ret : (Int × Int × Int × (List S104) × Int × (List (List S174)) × (List S174)) → Option R) (a10 : Int) (a11 : Int) (a12 : Int) (a13 : Int) (xs14 : List S104) (a15 : Int) (xs16 : List (List S174)) (xs17 : List S174) : Option R :=
  if (decide (a12 < a10)) = true then
 (f136 k a11 a12).bind fun t18 => if (List.length xs17 + List.length ([(⟨t18.1, t18.2.1, t18.2.2⟩ : S174)] : List S174)) * 24 ≤ maxN then
 rec_ a10 a11 (IntKind.i64.wrap (a12 + (1 : Int))) a13 xs14 a15 xs16 (xs17 ++ ([(⟨t18.1, t18.2.1, t18.2.2⟩ : S174)] : List S174))
 else none
 else
 ret (a10, a11, a13, xs14, a15, xs16, xs17)
def f130.l11 (k : Nat) : Nat → Int → Int → Int → Int → (List S104) → Int → (List (List S174)) → (List S174) → Option (Int × Int × Int × (List S104) × Int × (List (List S174)) × (List S174))
  | 0, _, _, _, _, _, _, _, _ => none
  | j + 1, a10, a11, a12, a13, xs14, a15, xs16, xs17 => f130.l11.step k (fun a10 a11 a12 a13 xs14 a15 xs16 xs17 => f130.l11 k j a10 a11 a12 a13 xs14 a15 xs16 xs17) some a10 a11 a12 a13 xs14 a15 xs16 xs17
def f130.l11.w {R : Type} : (Int × Int × Int × (List S104) × Int × (List (List S174)) × (List S174)) → (Exit → St env → Option R) → Option R := fun t21 K => K (.exit 2) ⟨fullT [0, 4, 6, 7, 8] 0 48 [.v (.c (.s (.int .i64 t21.1))), .v (.c (.bp 2 0)), .v (.c (.bp 226 0)), .v (.c (.s (.int .i64 t21.2.1))), .v (.c (.row 338))], [(2, .box [.s (.slice none 0 0), .s (.slice none 0 0), .s (.int .i64 t21.2.2.1)]), (178, .row true 104 t21.2.2.2.1), (226, .box [.row 178, .row 274, .s (.int .i64 t21.2.2.2.2.1)]), (274, .row true 171 t21.2.2.2.2.2.1), (338, .row true 174 t21.2.2.2.2.2.2)], 594⟩
def f130.l11.st (a10 : Int) (a11 : Int) (a12 : Int) (a13 : Int) (xs14 : List S104) (a15 : Int) (xs16 : List (List S174)) (xs17 : List S174) : St env := ⟨fullT [0, 4, 6, 7, 8, 9] 0 48 [.v (.c (.s (.int .i64 a10))), .v (.c (.bp 2 0)), .v (.c (.bp 226 0)), .v (.c (.s (.int .i64 a11))), .v (.c (.row 338)), .v (.c (.s (.int .i64 a12)))], [(2, .box [.s (.slice none 0 0), .s (.slice none 0 0), .s (.int .i64 a13)]), (178, .row true 104 xs14), (226, .box [.row 178, .row 274, .s (.int .i64 a15)]), (274, .row true 171 xs16), (338, .row true 174 xs17)], 386⟩
def f130.l7.step {R : Type} (k : Nat) (rec_ : Int → Int → Int → (List S104) → Int → (List (List S174)) → Option R) (ret : (Int × (List S104) × Int × (List (List S174))) → Option R) (a4 : Int) (a5 : Int) (a6 : Int) (xs7 : List S104) (a8 : Int) (xs9 : List (List S174)) : Option R :=
  if (decide (a5 < a4)) = true then
 (f130.l11 k k a4 a5 (0 : Int) a6 xs7 a8 xs9 ([] : List S174)).bind fun t19 => if (List.length t19.2.2.2.2.2.1 + List.length ([t19.2.2.2.2.2.2] : List (List S174))) * 24 ≤ maxN then
 rec_ t19.1 (IntKind.i64.wrap (t19.2.1 + (1 : Int))) t19.2.2.1 t19.2.2.2.1 t19.2.2.2.2.1 (t19.2.2.2.2.2.1 ++ ([t19.2.2.2.2.2.2] : List (List S174)))
 else none
 else
 ret (a6, xs7, a8, xs9)
def f130.l7 (k : Nat) : Nat → Int → Int → Int → (List S104) → Int → (List (List S174)) → Option (Int × (List S104) × Int × (List (List S174)))
  | 0, _, _, _, _, _, _ => none
  | j + 1, a4, a5, a6, xs7, a8, xs9 => f130.l7.step k (fun a4 a5 a6 xs7 a8 xs9 => f130.l7 k j a4 a5 a6 xs7 a8 xs9) some a4 a5 a6 xs7 a8 xs9
def f130.l7.w {R : Type} : (Int × (List S104) × Int × (List (List S174))) → (Exit → St env → Option R) → Option R := fun t22 K => K (.exit 0) ⟨fullT [4, 6] 0 48 [.v (.c (.bp 2 0)), .v (.c (.bp 226 0))], [(2, .box [.s (.slice none 0 0), .s (.slice none 0 0), .s (.int .i64 t22.1)]), (178, .row true 104 t22.2.1), (226, .box [.row 178, .row 274, .s (.int .i64 t22.2.2.1)]), (274, .row true 171 t22.2.2.2)], 754⟩
def f130.l7.st (a4 : Int) (a5 : Int) (a6 : Int) (xs7 : List S104) (a8 : Int) (xs9 : List (List S174)) : St env := ⟨fullT [0, 4, 6, 7] 0 48 [.v (.c (.s (.int .i64 a4))), .v (.c (.bp 2 0)), .v (.c (.bp 226 0)), .v (.c (.s (.int .i64 a5)))], [(2, .box [.s (.slice none 0 0), .s (.slice none 0 0), .s (.int .i64 a6)]), (178, .row true 104 xs7), (226, .box [.row 178, .row 274, .s (.int .i64 a8)]), (274, .row true 171 xs9)], 290⟩
def f130.l11.hd (k : Nat) (ts_ : List (AV env)) (mm_ : Mem env) (n_ : Nat) : LCl env :=
  gTs Ln [0, 4, 6, 7, 8, 9] 48 ts_ fun l_ => tI Ln l_ fun a10 l_ => tP Ln 2 l_ fun l_ => tP Ln 226 l_ fun l_ => tI Ln l_ fun a11 l_ => tR Ln 338 l_ fun l_ => tI Ln l_ fun a12 l_ => gE Ln l_ <| mBox Ln 2 mm_ fun c_ m_ => cN Ln c_ fun c_ => cN Ln c_ fun c_ => cI Ln c_ fun a13 c_ => gE Ln c_ <| mRow Ln 178 true 104 m_ fun xs14 m_ => mBox Ln 226 m_ fun c_ m_ => cR Ln 178 c_ fun c_ => cR Ln 274 c_ fun c_ => cI Ln c_ fun a15 c_ => gE Ln c_ <| mRow Ln 274 true 171 m_ fun xs16 m_ => mRow Ln 338 true 174 m_ fun xs17 m_ => gE Ln m_ <| gN Ln 386 n_ { α := Int × Int × Int × (List S104) × Int × (List (List S174)) × (List S174), o := f130.l11 k k a10 a11 a12 a13 xs14 a15 xs16 xs17, w := f130.l11.w }
def f130.l7.hd (k : Nat) (ts_ : List (AV env)) (mm_ : Mem env) (n_ : Nat) : LCl env :=
  gTs Ln [0, 4, 6, 7] 48 ts_ fun l_ => tI Ln l_ fun a4 l_ => tP Ln 2 l_ fun l_ => tP Ln 226 l_ fun l_ => tI Ln l_ fun a5 l_ => gE Ln l_ <| mBox Ln 2 mm_ fun c_ m_ => cN Ln c_ fun c_ => cN Ln c_ fun c_ => cI Ln c_ fun a6 c_ => gE Ln c_ <| mRow Ln 178 true 104 m_ fun xs7 m_ => mBox Ln 226 m_ fun c_ m_ => cR Ln 178 c_ fun c_ => cR Ln 274 c_ fun c_ => cI Ln c_ fun a8 c_ => gE Ln c_ <| mRow Ln 274 true 171 m_ fun xs9 m_ => gE Ln m_ <| gN Ln 290 n_ { α := Int × (List S104) × Int × (List (List S174)), o := f130.l7 k k a4 a5 a6 xs7 a8 xs9, w := f130.l7.w }
def f130.step {R : Type} (k : Nat) (ret : ((Int × Int) ⊕ ((List S104) × (List (List S174)) × Int × Int)) → Option R) (a1 : Int) (xs2 : List S104) : Option R :=
  if (decide ((((List.length xs2) : Nat) : Int) > (4096 : Int))) = true then
 ret (.inl ((0 : Int), (2 : Int)))
 else
 (f135 k a1 xs2).bind fun t3 => if (!t3) = true then
 ret (.inl ((0 : Int), (1 : Int)))
 else
 if (List.length ([] : List S104) + List.length xs2) * 32 ≤ maxN then
 (f130.l7 k k a1 (0 : Int) (0 : Int) (([] : List S104) ++ xs2) a1 ([] : List (List S174))).bind fun t20 => ret (.inr (t20.2.1, t20.2.2.2, t20.2.2.1, (0 : Int)))
 else none
def f130 (k : Nat) (a1 : Int) (xs2 : List S104) : Option ((Int × Int) ⊕ ((List S104) × (List (List S174)) × Int × Int)) := f130.step k some a1 xs2
def f130.w {R : Type} : ((Int × Int) ⊕ ((List S104) × (List (List S174)) × Int × Int)) → (Res env → Option R) → Option R := fun x K => Sum.elim (fun t23 => K ⟨.tup [.g [.s (.slice none 0 0), .s (.slice none 0 0), .s (.int .i64 t23.1)], .c (.s (.int .i64 t23.2))], [[], []]⟩) (fun t24 => K ⟨.tup [.g [.own true 104 t24.1, .own true 171 t24.2.1, .s (.int .i64 t24.2.2.1)], .c (.s (.int .i64 t24.2.2.2))], [[], []]⟩) x
theorem f130.wn (x : ((Int × Int) ⊕ ((List S104) × (List (List S174)) × Int × Int))) : ∃ res, ∀ {R : Type} (K : Res env → Option R), f130.w x K = K res := by
  rcases x with x | x <;> exact ⟨_, fun _ => rfl⟩
def f130.hd (k : Nat) (ps_ : List (P2 env)) : Cl env :=
  pI Cl.no ps_ fun a1 ps_ => pM Cl.no 104 ps_ fun xs2 ps_ => gE Cl.no ps_ <| { α := (Int × Int) ⊕ ((List S104) × (List (List S174)) × Int × Int), o := f130 k a1 xs2, w := f130.w, nat := fun x _ => f130.wn x }
def f130.e (k : Nat) : Entry env := ⟨fun ps => f130.hd k (coer [[.no], [.rd 104]] ps), [], []⟩
def f130.X (k : Nat) : Ctx env := { C := lookE [(135, f135.e k), (136, f136.e k)], L := lookE [(11, fun S => f130.l11.hd k S.ts S.m S.n), (7, fun S => f130.l7.hd k S.ts S.m S.n)], J := lookE [], keep := lookD [(11, [0, 4, 6, 7, 8, 9]), (7, [0, 4, 6, 7])], keepX := lookD [(11, [0, 4, 6, 7, 8]), (7, [4, 6])], span := lookN [(11, 208), (7, 464)], eff := fun n => memN n [], prep := lookP [(7, [.nilB 226 1 171])], np := 0 }
theorem f130.l11.nat {R : Type} (k : Nat) (rec_) (g : _ → Option R) (a10 a11 a12 a13 xs14 a15 xs16 xs17) : (f130.l11.step k rec_ some a10 a11 a12 a13 xs14 a15 xs16 xs17).bind g = f130.l11.step k (fun a10 a11 a12 a13 xs14 a15 xs16 xs17 => (rec_ a10 a11 a12 a13 xs14 a15 xs16 xs17).bind g) g a10 a11 a12 a13 xs14 a15 xs16 xs17 := by
  simp only [f130.l11.step, bind_ite, bind_sum, Option.bind_assoc, Option.bind_some, Option.bind_none]
theorem f130.l11.good (k : Nat) (a10 a11 a12 a13 xs14 a15 xs16 xs17) : GoodL (f130.X k) (nthC 1 (loopsOf (bodyOf Try.f130))) (f130.l11.st a10 a11 a12 a13 xs14 a15 xs16 xs17) { α := _, o := f130.l11 k k a10 a11 a12 a13 xs14 a15 xs16 xs17, w := f130.l11.w } :=
  loop_good (ι := Int × Int × Int × Int × (List S104) × Int × (List (List S174)) × (List S174)) (α := (Int × Int × Int × (List S104) × Int × (List (List S174)) × (List S174))) (fun i => f130.l11.st i.1 i.2.1 i.2.2.1 i.2.2.2.1 i.2.2.2.2.1 i.2.2.2.2.2.1 i.2.2.2.2.2.2.1 i.2.2.2.2.2.2.2) (fun j i => f130.l11 k j i.1 i.2.1 i.2.2.1 i.2.2.2.1 i.2.2.2.2.1 i.2.2.2.2.2.1 i.2.2.2.2.2.2.1 i.2.2.2.2.2.2.2) f130.l11.w (fun rec_ ret i => f130.l11.step k (fun a10 a11 a12 a13 xs14 a15 xs16 xs17 => rec_ (a10, a11, a12, a13, xs14, a15, xs16, xs17)) ret i.1 i.2.1 i.2.2.1 i.2.2.2.1 i.2.2.2.2.1 i.2.2.2.2.2.1 i.2.2.2.2.2.2.1 i.2.2.2.2.2.2.2)
    (fun _ => rfl) (fun _ _ => rfl) (fun rec_ g i => f130.l11.nat k _ g i.1 i.2.1 i.2.2.1 i.2.2.2.1 i.2.2.2.2.1 i.2.2.2.2.2.1 i.2.2.2.2.2.2.1 i.2.2.2.2.2.2.2) (fun {R} i0 i rec_ K => by kernel_rfl) k (a10, a11, a12, a13, xs14, a15, xs16, xs17)
theorem f130.l11.all (k : Nat) (S : St env) : GoodL (f130.X k) (nthC 1 (loopsOf (bodyOf Try.f130))) S (f130.l11.hd k S.ts S.m S.n) := by
  obtain ⟨ts_, m_, n_⟩ := S
  show GoodL _ _ _ (f130.l11.hd k ts_ m_ n_)
  unfold f130.l11.hd
  have hg_ := f130.l11.good k
  exact rdL
theorem f130.l7.nat {R : Type} (k : Nat) (rec_) (g : _ → Option R) (a4 a5 a6 xs7 a8 xs9) : (f130.l7.step k rec_ some a4 a5 a6 xs7 a8 xs9).bind g = f130.l7.step k (fun a4 a5 a6 xs7 a8 xs9 => (rec_ a4 a5 a6 xs7 a8 xs9).bind g) g a4 a5 a6 xs7 a8 xs9 := by
  simp only [f130.l7.step, bind_ite, bind_sum, Option.bind_assoc, Option.bind_some, Option.bind_none]
theorem f130.l7.good (k : Nat) (a4 a5 a6 xs7 a8 xs9) : GoodL (f130.X k) (nthC 0 (loopsOf (bodyOf Try.f130))) (f130.l7.st a4 a5 a6 xs7 a8 xs9) { α := _, o := f130.l7 k k a4 a5 a6 xs7 a8 xs9, w := f130.l7.w } :=
  loop_good (ι := Int × Int × Int × (List S104) × Int × (List (List S174))) (α := (Int × (List S104) × Int × (List (List S174)))) (fun i => f130.l7.st i.1 i.2.1 i.2.2.1 i.2.2.2.1 i.2.2.2.2.1 i.2.2.2.2.2) (fun j i => f130.l7 k j i.1 i.2.1 i.2.2.1 i.2.2.2.1 i.2.2.2.2.1 i.2.2.2.2.2) f130.l7.w (fun rec_ ret i => f130.l7.step k (fun a4 a5 a6 xs7 a8 xs9 => rec_ (a4, a5, a6, xs7, a8, xs9)) ret i.1 i.2.1 i.2.2.1 i.2.2.2.1 i.2.2.2.2.1 i.2.2.2.2.2)
    (fun _ => rfl) (fun _ _ => rfl) (fun rec_ g i => f130.l7.nat k _ g i.1 i.2.1 i.2.2.1 i.2.2.2.1 i.2.2.2.2.1 i.2.2.2.2.2) (fun {R} i0 i rec_ K => by kernel_rfl) k (a4, a5, a6, xs7, a8, xs9)
theorem f130.l7.all (k : Nat) (S : St env) : GoodL (f130.X k) (nthC 0 (loopsOf (bodyOf Try.f130))) S (f130.l7.hd k S.ts S.m S.n) := by
  obtain ⟨ts_, m_, n_⟩ := S
  show GoodL _ _ _ (f130.l7.hd k ts_ m_ n_)
  unfold f130.l7.hd
  have hg_ := f130.l7.good k
  exact rdL
theorem f130.nat {R : Type} (k : Nat) (g : _ → Option R) (a1 xs2) : f130.step k g a1 xs2 = (f130 k a1 xs2).bind g := by
  simp only [f130, f130.step, bind_ite, bind_sum, Option.bind_assoc, Option.bind_some, Option.bind_none]
theorem f130.ev (k : Nat) (a1 : Int) (xs2 : List S104) : evF (f130.X k) (bodyOf Try.f130) Try.f130.ntmps Try.f130.results.toList [.v (.c (.s (.int .i64 a1))), .v (.c (.sl 104 xs2))] = f130.step k (fun x => f130.w x some) a1 xs2 := by kernel_rfl
theorem f130.hok (k : Nat) : HOK (f130.X k) (bodyOf Try.f130) where
  l := allP_mem (by exact ⟨ls_of (h0 := fun S => f130.l7.hd k S.ts S.m S.n) (by kernel_rfl) (f130.l7.all k), ls_of (h0 := fun S => f130.l11.hd k S.ts S.m S.n) (by kernel_rfl) (f130.l11.all k), trivial⟩)
  j := allP_mem (by exact trivial)
  q := allP_mem (by exact trivial)
theorem f130.sound0 (k : Nat) : SoundC env Try.prog 130 (f130.hd k) := by
  intro ps_
  show GoodC _ _ _ ps_ (f130.hd k ps_)
  unfold f130.hd
  have hF_ := fun_sound envOK (cs_sound _ (by exact ⟨⟨f135.sound k, f135.fnok⟩, ⟨f136.sound k, f136.fnok⟩, trivial⟩)) (f130.hok k) Try.func130 rfl
  have hev_ := f130.ev k
  have hnat_ := fun g_ => f130.nat k (R := Res env) g_
  exact rdC
theorem f130.sound (k : Nat) : SoundC env Try.prog 130 (f130.e k).F := soundC_coer (f130.sound0 k) [[.no], [.rd 104]]
theorem f130.fnok : FnOK Try.prog 130 := fn_ok Try.func130 (by kernel_rfl) rfl
def f182.step {R : Type} (k : Nat) (ret : (Int × (List Int) × Int × Int) → Option R) (xs1 : List Int) (a2 : Int) (a3 : Int) (a4 : Int) : Option R :=
  ret ((if a4 < (IntKind.i64.wrap ((1 : Int) + (IntKind.i64.wrap (Int.tdiv (((List.length xs1) : Nat) : Int) (12 : Int))))) then a4 else (IntKind.i64.wrap ((1 : Int) + (IntKind.i64.wrap (Int.tdiv (((List.length xs1) : Nat) : Int) (12 : Int)))))), xs1, a2, a3)
def f182 (k : Nat) (xs1 : List Int) (a2 : Int) (a3 : Int) (a4 : Int) : Option (Int × (List Int) × Int × Int) := f182.step k some xs1 a2 a3 a4
def f182.w {R : Type} : (Int × (List Int) × Int × Int) → (Res env → Option R) → Option R := fun t5 K => K ⟨.v (.c (.s (.int .i64 t5.1))), [[.sl 5 t5.2.1, .s (.int .i64 t5.2.2.1), .s (.int .i64 t5.2.2.2)], []]⟩
theorem f182.wn (x : (Int × (List Int) × Int × Int)) : ∃ res, ∀ {R : Type} (K : Res env → Option R), f182.w x K = K res := by
  exact ⟨_, fun _ => rfl⟩
def f182.hd (k : Nat) (ps_ : List (P2 env)) : Cl env :=
  gC Cl.no ps_ fun p_ ps_ => qP Cl.no p_ fun cs_ => dM Cl.no 5 cs_ fun xs1 cs_ => dI Cl.no cs_ fun a2 cs_ => dI Cl.no cs_ fun a3 cs_ => gE Cl.no cs_ <| pI Cl.no ps_ fun a4 ps_ => gE Cl.no ps_ <| { α := Int × (List Int) × Int × Int, o := f182 k xs1 a2 a3 a4, w := f182.w, nat := fun x _ => f182.wn x }
def f182.e (k : Nat) : Entry env := ⟨fun ps => f182.hd k (coer [[.rd 5, .no, .no], [.no]] ps), [], []⟩
def f182.X (k : Nat) : Ctx env := { C := lookE [], L := lookE [], J := lookE [], keep := lookD [], keepX := lookD [], span := lookN [], eff := fun n => memN n [], prep := lookP [], np := 0 }
theorem f182.nat {R : Type} (k : Nat) (g : _ → Option R) (xs1 a2 a3 a4) : f182.step k g xs1 a2 a3 a4 = (f182 k xs1 a2 a3 a4).bind g := by
  simp only [f182, f182.step, bind_ite, bind_sum, Option.bind_assoc, Option.bind_some, Option.bind_none]
theorem f182.ev (k : Nat) (xs1 : List Int) (a2 : Int) (a3 : Int) (a4 : Int) : evF (f182.X k) (bodyOf Try.f182) Try.f182.ntmps Try.f182.results.toList [.v (.ptr [.sl 5 xs1, .s (.int .i64 a2), .s (.int .i64 a3)]), .v (.c (.s (.int .i64 a4)))] = f182.step k (fun x => f182.w x some) xs1 a2 a3 a4 := by kernel_rfl
theorem f182.hok (k : Nat) : HOK (f182.X k) (bodyOf Try.f182) where
  l := allP_mem (by exact trivial)
  j := allP_mem (by exact trivial)
  q := allP_mem (by exact trivial)
theorem f182.sound0 (k : Nat) : SoundC env Try.prog 182 (f182.hd k) := by
  intro ps_
  show GoodC _ _ _ ps_ (f182.hd k ps_)
  unfold f182.hd
  have hF_ := fun_sound envOK (cs_sound _ (by exact trivial)) (f182.hok k) Try.func182 rfl
  have hev_ := f182.ev k
  have hnat_ := fun g_ => f182.nat k (R := Res env) g_
  exact rdC
theorem f182.sound (k : Nat) : SoundC env Try.prog 182 (f182.e k).F := soundC_coer (f182.sound0 k) [[.rd 5, .no, .no], [.no]]
theorem f182.fnok : FnOK Try.prog 182 := fn_ok Try.func182 (by kernel_rfl) rfl
def f183.l3.step {R : Type} (k : Nat) (rec_ : Int → (List Int) → Int → Int → (List Bool) → Option R) (ret : ((List Int) × Int × Int × (List Bool)) → Option R) (a6 : Int) (xs7 : List Int) (a8 : Int) (a9 : Int) (xs10 : List Bool) : Option R :=
  if (decide (a6 > (0 : Int))) = true then
 (f170 k xs7 a8 a9 (2 : Int)).bind fun t11 => if (List.length xs10 + List.length ([t11.1] : List Bool)) * 1 ≤ maxN then
 rec_ (IntKind.i64.wrap (a6 - (1 : Int))) t11.2.1 t11.2.2.1 t11.2.2.2 (xs10 ++ ([t11.1] : List Bool))
 else none
 else
 ret (xs7, a8, a9, xs10)
def f183.l3 (k : Nat) : Nat → Int → (List Int) → Int → Int → (List Bool) → Option ((List Int) × Int × Int × (List Bool))
  | 0, _, _, _, _, _ => none
  | j + 1, a6, xs7, a8, a9, xs10 => f183.l3.step k (fun a6 xs7 a8 a9 xs10 => f183.l3 k j a6 xs7 a8 a9 xs10) some a6 xs7 a8 a9 xs10
def f183.l3.w {R : Type} : ((List Int) × Int × Int × (List Bool)) → (Exit → St env → Option R) → Option R := fun t13 K => K (.exit 0) ⟨fullT [0, 5] 0 22 [.v (.c (.bp 0 0)), .v (.c (.row 18))], [(0, .box [.imm 5 t13.1, .s (.int .i64 t13.2.1), .s (.int .i64 t13.2.2.1)]), (18, .row true 4 t13.2.2.2)], 306⟩
def f183.l3.st (a6 : Int) (xs7 : List Int) (a8 : Int) (a9 : Int) (xs10 : List Bool) : St env := ⟨fullT [0, 5, 6] 0 22 [.v (.c (.bp 0 0)), .v (.c (.row 18)), .v (.c (.s (.int .i64 a6)))], [(0, .box [.imm 5 xs7, .s (.int .i64 a8), .s (.int .i64 a9)]), (18, .row true 4 xs10)], 130⟩
def f183.l3.hd (k : Nat) (ts_ : List (AV env)) (mm_ : Mem env) (n_ : Nat) : LCl env :=
  gTs Ln [0, 5, 6] 22 ts_ fun l_ => tP Ln 0 l_ fun l_ => tR Ln 18 l_ fun l_ => tI Ln l_ fun a6 l_ => gE Ln l_ <| mBox Ln 0 mm_ fun c_ m_ => cM Ln 5 c_ fun xs7 c_ => cI Ln c_ fun a8 c_ => cI Ln c_ fun a9 c_ => gE Ln c_ <| mRow Ln 18 true 4 m_ fun xs10 m_ => gE Ln m_ <| gN Ln 130 n_ { α := (List Int) × Int × Int × (List Bool), o := f183.l3 k k a6 xs7 a8 a9 xs10, w := f183.l3.w }
def f183.step {R : Type} (k : Nat) (ret : ((List Bool) × (List Int) × Int × Int) → Option R) (xs1 : List Int) (a2 : Int) (a3 : Int) (a4 : Int) : Option R :=
  (f139 k xs1 a2 a3 (IntKind.i64.wrap (a4 + (1 : Int)))).bind fun t5 => (f183.l3 k k t5.1 t5.2.1 t5.2.2.1 t5.2.2.2 ([] : List Bool)).bind fun t12 => ret (t12.2.2.2, t12.1, t12.2.1, t12.2.2.1)
def f183 (k : Nat) (xs1 : List Int) (a2 : Int) (a3 : Int) (a4 : Int) : Option ((List Bool) × (List Int) × Int × Int) := f183.step k some xs1 a2 a3 a4
def f183.w {R : Type} : ((List Bool) × (List Int) × Int × Int) → (Res env → Option R) → Option R := fun t14 K => K ⟨.v (.c (.own true 4 t14.1)), [[.sl 5 t14.2.1, .s (.int .i64 t14.2.2.1), .s (.int .i64 t14.2.2.2)], []]⟩
theorem f183.wn (x : ((List Bool) × (List Int) × Int × Int)) : ∃ res, ∀ {R : Type} (K : Res env → Option R), f183.w x K = K res := by
  exact ⟨_, fun _ => rfl⟩
def f183.hd (k : Nat) (ps_ : List (P2 env)) : Cl env :=
  gC Cl.no ps_ fun p_ ps_ => qP Cl.no p_ fun cs_ => dM Cl.no 5 cs_ fun xs1 cs_ => dI Cl.no cs_ fun a2 cs_ => dI Cl.no cs_ fun a3 cs_ => gE Cl.no cs_ <| pI Cl.no ps_ fun a4 ps_ => gE Cl.no ps_ <| { α := (List Bool) × (List Int) × Int × Int, o := f183 k xs1 a2 a3 a4, w := f183.w, nat := fun x _ => f183.wn x }
def f183.e (k : Nat) : Entry env := ⟨fun ps => f183.hd k (coer [[.rd 5, .no, .no], [.no]] ps), [], []⟩
def f183.X (k : Nat) : Ctx env := { C := lookE [(139, f139.e k), (170, f170.e k)], L := lookE [(3, fun S => f183.l3.hd k S.ts S.m S.n)], J := lookE [], keep := lookD [(3, [0, 5, 6])], keepX := lookD [(3, [0, 5])], span := lookN [(3, 176)], eff := fun n => memN n [], prep := lookP [], np := 0 }
theorem f183.l3.nat {R : Type} (k : Nat) (rec_) (g : _ → Option R) (a6 xs7 a8 a9 xs10) : (f183.l3.step k rec_ some a6 xs7 a8 a9 xs10).bind g = f183.l3.step k (fun a6 xs7 a8 a9 xs10 => (rec_ a6 xs7 a8 a9 xs10).bind g) g a6 xs7 a8 a9 xs10 := by
  simp only [f183.l3.step, bind_ite, bind_sum, Option.bind_assoc, Option.bind_some, Option.bind_none]
theorem f183.l3.good (k : Nat) (a6 xs7 a8 a9 xs10) : GoodL (f183.X k) (nthC 0 (loopsOf (bodyOf Try.f183))) (f183.l3.st a6 xs7 a8 a9 xs10) { α := _, o := f183.l3 k k a6 xs7 a8 a9 xs10, w := f183.l3.w } :=
  loop_good (ι := Int × (List Int) × Int × Int × (List Bool)) (α := ((List Int) × Int × Int × (List Bool))) (fun i => f183.l3.st i.1 i.2.1 i.2.2.1 i.2.2.2.1 i.2.2.2.2) (fun j i => f183.l3 k j i.1 i.2.1 i.2.2.1 i.2.2.2.1 i.2.2.2.2) f183.l3.w (fun rec_ ret i => f183.l3.step k (fun a6 xs7 a8 a9 xs10 => rec_ (a6, xs7, a8, a9, xs10)) ret i.1 i.2.1 i.2.2.1 i.2.2.2.1 i.2.2.2.2)
    (fun _ => rfl) (fun _ _ => rfl) (fun rec_ g i => f183.l3.nat k _ g i.1 i.2.1 i.2.2.1 i.2.2.2.1 i.2.2.2.2) (fun {R} i0 i rec_ K => by kernel_rfl) k (a6, xs7, a8, a9, xs10)
theorem f183.l3.all (k : Nat) (S : St env) : GoodL (f183.X k) (nthC 0 (loopsOf (bodyOf Try.f183))) S (f183.l3.hd k S.ts S.m S.n) := by
  obtain ⟨ts_, m_, n_⟩ := S
  show GoodL _ _ _ (f183.l3.hd k ts_ m_ n_)
  unfold f183.l3.hd
  have hg_ := f183.l3.good k
  exact rdL
theorem f183.nat {R : Type} (k : Nat) (g : _ → Option R) (xs1 a2 a3 a4) : f183.step k g xs1 a2 a3 a4 = (f183 k xs1 a2 a3 a4).bind g := by
  simp only [f183, f183.step, bind_ite, bind_sum, Option.bind_assoc, Option.bind_some, Option.bind_none]
theorem f183.ev (k : Nat) (xs1 : List Int) (a2 : Int) (a3 : Int) (a4 : Int) : evF (f183.X k) (bodyOf Try.f183) Try.f183.ntmps Try.f183.results.toList [.v (.ptr [.sl 5 xs1, .s (.int .i64 a2), .s (.int .i64 a3)]), .v (.c (.s (.int .i64 a4)))] = f183.step k (fun x => f183.w x some) xs1 a2 a3 a4 := by kernel_rfl
theorem f183.hok (k : Nat) : HOK (f183.X k) (bodyOf Try.f183) where
  l := allP_mem (by exact ⟨ls_of (h0 := fun S => f183.l3.hd k S.ts S.m S.n) (by kernel_rfl) (f183.l3.all k), trivial⟩)
  j := allP_mem (by exact trivial)
  q := allP_mem (by exact trivial)
theorem f183.sound0 (k : Nat) : SoundC env Try.prog 183 (f183.hd k) := by
  intro ps_
  show GoodC _ _ _ ps_ (f183.hd k ps_)
  unfold f183.hd
  have hF_ := fun_sound envOK (cs_sound _ (by exact ⟨⟨f139.sound k, f139.fnok⟩, ⟨f170.sound k, f170.fnok⟩, trivial⟩)) (f183.hok k) Try.func183 rfl
  have hev_ := f183.ev k
  have hnat_ := fun g_ => f183.nat k (R := Res env) g_
  exact rdC
theorem f183.sound (k : Nat) : SoundC env Try.prog 183 (f183.e k).F := soundC_coer (f183.sound0 k) [[.rd 5, .no, .no], [.no]]
theorem f183.fnok : FnOK Try.prog 183 := fn_ok Try.func183 (by kernel_rfl) rfl
def f132.l3.step {R : Type} (k : Nat) (rec_ : Int → Int → (List Int) → Int → Int → (List S207) → Option R) (ret : ((List Int) × Int × Int × (List S207)) → Option R) (a7 : Int) (a8 : Int) (xs9 : List Int) (a10 : Int) (a11 : Int) (xs12 : List S207) : Option R :=
  if (decide (a8 > (0 : Int))) = true then
 if (decide ((((List.length xs12) : Nat) : Int) < (60 : Int))) = true then
 (f139 k xs9 a10 a11 (5 : Int)).bind fun t13 => if (decide (t13.1 = (0 : Int))) = true then
 (f139 k t13.2.1 t13.2.2.1 t13.2.2.2 (if a7 > (1 : Int) then a7 else (1 : Int))).bind fun t14 => if (List.length xs12 + List.length ([(⟨(3 : Int), t14.1, []⟩ : S207)] : List S207)) * 40 ≤ maxN then
 rec_ a7 (IntKind.i64.wrap (a8 - (1 : Int))) t14.2.1 t14.2.2.1 t14.2.2.2 (xs12 ++ ([(⟨(3 : Int), t14.1, []⟩ : S207)] : List S207))
 else none
 else
 if (decide (t13.1 = (1 : Int))) = true then
 (f139 k t13.2.1 t13.2.2.1 t13.2.2.2 (if a7 > (1 : Int) then a7 else (1 : Int))).bind fun t15 => if (List.length xs12 + List.length ([(⟨(2 : Int), t15.1, []⟩ : S207)] : List S207)) * 40 ≤ maxN then
 rec_ a7 (IntKind.i64.wrap (a8 - (1 : Int))) t15.2.1 t15.2.2.1 t15.2.2.2 (xs12 ++ ([(⟨(2 : Int), t15.1, []⟩ : S207)] : List S207))
 else none
 else
 if (decide (t13.1 = (2 : Int))) = true then
 (f183 k t13.2.1 t13.2.2.1 t13.2.2.2 (16 : Int)).bind fun t16 => if (List.length xs12 + List.length ([(⟨(4 : Int), (0 : Int), t16.1⟩ : S207)] : List S207)) * 40 ≤ maxN then
 rec_ a7 (IntKind.i64.wrap (a8 - (1 : Int))) t16.2.1 t16.2.2.1 t16.2.2.2 (xs12 ++ ([(⟨(4 : Int), (0 : Int), t16.1⟩ : S207)] : List S207))
 else none
 else
 if (List.length xs12 + List.length ([(⟨(1 : Int), (0 : Int), []⟩ : S207)] : List S207)) * 40 ≤ maxN then
 rec_ a7 (IntKind.i64.wrap (a8 - (1 : Int))) t13.2.1 t13.2.2.1 t13.2.2.2 (xs12 ++ ([(⟨(1 : Int), (0 : Int), []⟩ : S207)] : List S207))
 else none
 else
 ret (xs9, a10, a11, xs12)
 else
 ret (xs9, a10, a11, xs12)
def f132.l3 (k : Nat) : Nat → Int → Int → (List Int) → Int → Int → (List S207) → Option ((List Int) × Int × Int × (List S207))
  | 0, _, _, _, _, _, _ => none
  | j + 1, a7, a8, xs9, a10, a11, xs12 => f132.l3.step k (fun a7 a8 xs9 a10 a11 xs12 => f132.l3 k j a7 a8 xs9 a10 a11 xs12) some a7 a8 xs9 a10 a11 xs12
def f132.l3.w {R : Type} : ((List Int) × Int × Int × (List S207)) → (Exit → St env → Option R) → Option R := fun t18 K => K (.exit 0) ⟨fullT [0, 5] 0 57 [.v (.c (.bp 0 0)), .v (.c (.row 18))], [(0, .box [.imm 5 t18.1, .s (.int .i64 t18.2.1), .s (.int .i64 t18.2.2.1)]), (18, .row true 207 t18.2.2.2)], 546⟩
def f132.l3.st (a7 : Int) (a8 : Int) (xs9 : List Int) (a10 : Int) (a11 : Int) (xs12 : List S207) : St env := ⟨fullT [0, 1, 5, 6] 0 57 [.v (.c (.bp 0 0)), .v (.c (.s (.int .i64 a7))), .v (.c (.row 18)), .v (.c (.s (.int .i64 a8)))], [(0, .box [.imm 5 xs9, .s (.int .i64 a10), .s (.int .i64 a11)]), (18, .row true 207 xs12)], 146⟩
def f132.l3.hd (k : Nat) (ts_ : List (AV env)) (mm_ : Mem env) (n_ : Nat) : LCl env :=
  gTs Ln [0, 1, 5, 6] 57 ts_ fun l_ => tP Ln 0 l_ fun l_ => tI Ln l_ fun a7 l_ => tR Ln 18 l_ fun l_ => tI Ln l_ fun a8 l_ => gE Ln l_ <| mBox Ln 0 mm_ fun c_ m_ => cM Ln 5 c_ fun xs9 c_ => cI Ln c_ fun a10 c_ => cI Ln c_ fun a11 c_ => gE Ln c_ <| mRow Ln 18 true 207 m_ fun xs12 m_ => gE Ln m_ <| gN Ln 146 n_ { α := (List Int) × Int × Int × (List S207), o := f132.l3 k k a7 a8 xs9 a10 a11 xs12, w := f132.l3.w }
def f132.step {R : Type} (k : Nat) (ret : ((List S207) × (List Int) × Int × Int) → Option R) (xs1 : List Int) (a2 : Int) (a3 : Int) (a4 : Int) : Option R :=
  (f182 k xs1 a2 a3 (14 : Int)).bind fun t5 => (f139 k t5.2.1 t5.2.2.1 t5.2.2.2 (IntKind.i64.wrap (t5.1 + (3 : Int)))).bind fun t6 => (f132.l3 k k a4 t6.1 t6.2.1 t6.2.2.1 t6.2.2.2 ([] : List S207)).bind fun t17 => ret (t17.2.2.2, t17.1, t17.2.1, t17.2.2.1)
def f132 (k : Nat) (xs1 : List Int) (a2 : Int) (a3 : Int) (a4 : Int) : Option ((List S207) × (List Int) × Int × Int) := f132.step k some xs1 a2 a3 a4
def f132.w {R : Type} : ((List S207) × (List Int) × Int × Int) → (Res env → Option R) → Option R := fun t19 K => K ⟨.v (.c (.own true 207 t19.1)), [[.sl 5 t19.2.1, .s (.int .i64 t19.2.2.1), .s (.int .i64 t19.2.2.2)], []]⟩
theorem f132.wn (x : ((List S207) × (List Int) × Int × Int)) : ∃ res, ∀ {R : Type} (K : Res env → Option R), f132.w x K = K res := by
  exact ⟨_, fun _ => rfl⟩
def f132.hd (k : Nat) (ps_ : List (P2 env)) : Cl env :=
  gC Cl.no ps_ fun p_ ps_ => qP Cl.no p_ fun cs_ => dM Cl.no 5 cs_ fun xs1 cs_ => dI Cl.no cs_ fun a2 cs_ => dI Cl.no cs_ fun a3 cs_ => gE Cl.no cs_ <| pI Cl.no ps_ fun a4 ps_ => gE Cl.no ps_ <| { α := (List S207) × (List Int) × Int × Int, o := f132 k xs1 a2 a3 a4, w := f132.w, nat := fun x _ => f132.wn x }
def f132.e (k : Nat) : Entry env := ⟨fun ps => f132.hd k (coer [[.rd 5, .no, .no], [.no]] ps), [], []⟩
def f132.X (k : Nat) : Ctx env := { C := lookE [(139, f139.e k), (182, f182.e k), (183, f183.e k)], L := lookE [(3, fun S => f132.l3.hd k S.ts S.m S.n)], J := lookE [], keep := lookD [(3, [0, 1, 5, 6])], keepX := lookD [(3, [0, 5])], span := lookN [(3, 400)], eff := fun n => memN n [], prep := lookP [], np := 0 }
theorem f132.l3.nat {R : Type} (k : Nat) (rec_) (g : _ → Option R) (a7 a8 xs9 a10 a11 xs12) : (f132.l3.step k rec_ some a7 a8 xs9 a10 a11 xs12).bind g = f132.l3.step k (fun a7 a8 xs9 a10 a11 xs12 => (rec_ a7 a8 xs9 a10 a11 xs12).bind g) g a7 a8 xs9 a10 a11 xs12 := by
  simp only [f132.l3.step, bind_ite, bind_sum, Option.bind_assoc, Option.bind_some, Option.bind_none]
theorem f132.l3.good (k : Nat) (a7 a8 xs9 a10 a11 xs12) : GoodL (f132.X k) (nthC 0 (loopsOf (bodyOf Try.f132))) (f132.l3.st a7 a8 xs9 a10 a11 xs12) { α := _, o := f132.l3 k k a7 a8 xs9 a10 a11 xs12, w := f132.l3.w } :=
  loop_good (ι := Int × Int × (List Int) × Int × Int × (List S207)) (α := ((List Int) × Int × Int × (List S207))) (fun i => f132.l3.st i.1 i.2.1 i.2.2.1 i.2.2.2.1 i.2.2.2.2.1 i.2.2.2.2.2) (fun j i => f132.l3 k j i.1 i.2.1 i.2.2.1 i.2.2.2.1 i.2.2.2.2.1 i.2.2.2.2.2) f132.l3.w (fun rec_ ret i => f132.l3.step k (fun a7 a8 xs9 a10 a11 xs12 => rec_ (a7, a8, xs9, a10, a11, xs12)) ret i.1 i.2.1 i.2.2.1 i.2.2.2.1 i.2.2.2.2.1 i.2.2.2.2.2)
    (fun _ => rfl) (fun _ _ => rfl) (fun rec_ g i => f132.l3.nat k _ g i.1 i.2.1 i.2.2.1 i.2.2.2.1 i.2.2.2.2.1 i.2.2.2.2.2) (fun {R} i0 i rec_ K => by kernel_rfl) k (a7, a8, xs9, a10, a11, xs12)
theorem f132.l3.all (k : Nat) (S : St env) : GoodL (f132.X k) (nthC 0 (loopsOf (bodyOf Try.f132))) S (f132.l3.hd k S.ts S.m S.n) := by
  obtain ⟨ts_, m_, n_⟩ := S
  show GoodL _ _ _ (f132.l3.hd k ts_ m_ n_)
  unfold f132.l3.hd
  have hg_ := f132.l3.good k
  exact rdL
theorem f132.nat {R : Type} (k : Nat) (g : _ → Option R) (xs1 a2 a3 a4) : f132.step k g xs1 a2 a3 a4 = (f132 k xs1 a2 a3 a4).bind g := by
  simp only [f132, f132.step, bind_ite, bind_sum, Option.bind_assoc, Option.bind_some, Option.bind_none]
theorem f132.ev (k : Nat) (xs1 : List Int) (a2 : Int) (a3 : Int) (a4 : Int) : evF (f132.X k) (bodyOf Try.f132) Try.f132.ntmps Try.f132.results.toList [.v (.ptr [.sl 5 xs1, .s (.int .i64 a2), .s (.int .i64 a3)]), .v (.c (.s (.int .i64 a4)))] = f132.step k (fun x => f132.w x some) xs1 a2 a3 a4 := by kernel_rfl
theorem f132.hok (k : Nat) : HOK (f132.X k) (bodyOf Try.f132) where
  l := allP_mem (by exact ⟨ls_of (h0 := fun S => f132.l3.hd k S.ts S.m S.n) (by kernel_rfl) (f132.l3.all k), trivial⟩)
  j := allP_mem (by exact trivial)
  q := allP_mem (by exact trivial)
theorem f132.sound0 (k : Nat) : SoundC env Try.prog 132 (f132.hd k) := by
  intro ps_
  show GoodC _ _ _ ps_ (f132.hd k ps_)
  unfold f132.hd
  have hF_ := fun_sound envOK (cs_sound _ (by exact ⟨⟨f139.sound k, f139.fnok⟩, ⟨f182.sound k, f182.fnok⟩, ⟨f183.sound k, f183.fnok⟩, trivial⟩)) (f132.hok k) Try.func132 rfl
  have hev_ := f132.ev k
  have hnat_ := fun g_ => f132.nat k (R := Res env) g_
  exact rdC
theorem f132.sound (k : Nat) : SoundC env Try.prog 132 (f132.e k).F := soundC_coer (f132.sound0 k) [[.rd 5, .no, .no], [.no]]
theorem f132.fnok : FnOK Try.prog 132 := fn_ok Try.func132 (by kernel_rfl) rfl
def f57.l9.step {R : Type} (k : Nat) (rec_ : Int → Int → (List S104) → (List (List S174)) → Int → Option R) (ret : ((Bool × Int × (List S104) × (List (List S174)) × Int) ⊕ (Int × (List S104) × (List (List S174)) × Int)) → Option R) (a9 : Int) (a10 : Int) (xs11 : List S104) (xs12 : List (List S174)) (a13 : Int) : Option R :=
  if (decide (a10 < a13)) = true then
 if (0 : Int) ≤ a9 then
 if a9 < ((List.length xs12 : Nat) : Int) then
 if (0 : Int) ≤ a10 then
 if a10 < ((List.length (List.getD xs12 (Int.toNat a9) []) : Nat) : Int) then
 if (decide (a9 = a10)) = true then
 (f136 k a9 a10).bind fun t14 => if (!(decide ((List.getD (List.getD xs12 (Int.toNat a9) []) (Int.toNat a10) (⟨(0 : Int), (0 : Int), (0 : Int)⟩ : S174)).f0 = t14.1) && (decide ((List.getD (List.getD xs12 (Int.toNat a9) []) (Int.toNat a10) (⟨(0 : Int), (0 : Int), (0 : Int)⟩ : S174)).f1 = t14.2.1) && (decide ((List.getD (List.getD xs12 (Int.toNat a9) []) (Int.toNat a10) (⟨(0 : Int), (0 : Int), (0 : Int)⟩ : S174)).f2 = t14.2.2) && true)))) = true then
 ret (.inl (false, a9, xs11, xs12, a13))
 else
 rec_ a9 (IntKind.i64.wrap (a10 + (1 : Int))) xs11 xs12 a13
 else
 (f61 k (List.getD (List.getD xs12 (Int.toNat a9) []) (Int.toNat a10) (⟨(0 : Int), (0 : Int), (0 : Int)⟩ : S174)).f0 (1 : Int) (16 : Int)).bind fun t15 => if (!t15) = false then
 (f61 k (List.getD (List.getD xs12 (Int.toNat a9) []) (Int.toNat a10) (⟨(0 : Int), (0 : Int), (0 : Int)⟩ : S174)).f2 (0 : Int) (6 : Int)).bind fun t16 => if (!t16) = false then
 (f61 k (List.getD (List.getD xs12 (Int.toNat a9) []) (Int.toNat a10) (⟨(0 : Int), (0 : Int), (0 : Int)⟩ : S174)).f1 (-1 : Int) (IntKind.i64.wrap (a13 - (1 : Int)))).bind fun t17 => if (!t17) = false then
 (f136 k a9 a10).bind fun t18 => if (!((decide ((List.getD (List.getD xs12 (Int.toNat a9) []) (Int.toNat a10) (⟨(0 : Int), (0 : Int), (0 : Int)⟩ : S174)).f1 < (0 : Int))) == (decide ((List.getD (List.getD xs12 (Int.toNat a9) []) (Int.toNat a10) (⟨(0 : Int), (0 : Int), (0 : Int)⟩ : S174)).f0 = t18.1) && (decide ((List.getD (List.getD xs12 (Int.toNat a9) []) (Int.toNat a10) (⟨(0 : Int), (0 : Int), (0 : Int)⟩ : S174)).f1 = t18.2.1) && (decide ((List.getD (List.getD xs12 (Int.toNat a9) []) (Int.toNat a10) (⟨(0 : Int), (0 : Int), (0 : Int)⟩ : S174)).f2 = t18.2.2) && true))))) = true then
 ret (.inl (false, a9, xs11, xs12, a13))
 else
 if (decide ((List.getD (List.getD xs12 (Int.toNat a9) []) (Int.toNat a10) (⟨(0 : Int), (0 : Int), (0 : Int)⟩ : S174)).f1 ≥ (0 : Int))) = true then
 (f137 k xs11 a9 (List.getD (List.getD xs12 (Int.toNat a9) []) (Int.toNat a10) (⟨(0 : Int), (0 : Int), (0 : Int)⟩ : S174)).f1).bind fun t19 => if (decide (t19 < (0 : Int))) = false then
 if (decide ((List.getD (List.getD xs12 (Int.toNat a9) []) (Int.toNat a10) (⟨(0 : Int), (0 : Int), (0 : Int)⟩ : S174)).f0 < (16 : Int))) = true then
 if (0 : Int) ≤ t19 then
 if t19 < ((List.length xs11 : Nat) : Int) then
 if (!(List.getD xs11 (Int.toNat t19) (⟨(0 : Int), (0 : Int), (0 : Int), false⟩ : S104)).f3) = true then
 ret (.inl (false, a9, xs11, xs12, a13))
 else
 rec_ a9 (IntKind.i64.wrap (a10 + (1 : Int))) xs11 xs12 a13
 else none
 else none
 else
 rec_ a9 (IntKind.i64.wrap (a10 + (1 : Int))) xs11 xs12 a13
 else
 ret (.inl (false, a9, xs11, xs12, a13))
 else
 rec_ a9 (IntKind.i64.wrap (a10 + (1 : Int))) xs11 xs12 a13
 else
 ret (.inl (false, a9, xs11, xs12, a13))
 else
 ret (.inl (false, a9, xs11, xs12, a13))
 else
 ret (.inl (false, a9, xs11, xs12, a13))
 else none
 else none
 else none
 else none
 else
 ret (.inr (a9, xs11, xs12, a13))
def f57.l9 (k : Nat) : Nat → Int → Int → (List S104) → (List (List S174)) → Int → Option ((Bool × Int × (List S104) × (List (List S174)) × Int) ⊕ (Int × (List S104) × (List (List S174)) × Int))
  | 0, _, _, _, _, _ => none
  | j + 1, a9, a10, xs11, xs12, a13 => f57.l9.step k (fun a9 a10 xs11 xs12 a13 => f57.l9 k j a9 a10 xs11 xs12 a13) some a9 a10 xs11 xs12 a13
def f57.l9.w {R : Type} : ((Bool × Int × (List S104) × (List (List S174)) × Int) ⊕ (Int × (List S104) × (List (List S174)) × Int)) → (Exit → St env → Option R) → Option R := fun x K => Sum.elim (fun t24 => K .ret ⟨fullT [1, 2, 3] 0 113 [.v (.c (.bp 1 0)), .v (.c (.s (.bool t24.1))), .v (.c (.s (.int .i64 t24.2.1)))], [(1, .box [.imm 104 t24.2.2.1, .imm 171 t24.2.2.2.1, .s (.int .i64 t24.2.2.2.2)])], 1841⟩) (fun t25 => K (.exit 2) ⟨fullT [1, 3] 0 113 [.v (.c (.bp 1 0)), .v (.c (.s (.int .i64 t25.1)))], [(1, .box [.imm 104 t25.2.1, .imm 171 t25.2.2.1, .s (.int .i64 t25.2.2.2)])], 1841⟩) x
def f57.l9.st (a9 : Int) (a10 : Int) (xs11 : List S104) (xs12 : List (List S174)) (a13 : Int) : St env := ⟨fullT [1, 3, 4] 0 113 [.v (.c (.bp 1 0)), .v (.c (.s (.int .i64 a9))), .v (.c (.s (.int .i64 a10)))], [(1, .box [.imm 104 xs11, .imm 171 xs12, .s (.int .i64 a13)])], 497⟩
def f57.l4.step {R : Type} (k : Nat) (rec_ : Int → (List S104) → (List (List S174)) → Int → Option R) (ret : (Bool ⊕ (Unit)) → Option R) (a5 : Int) (xs6 : List S104) (xs7 : List (List S174)) (a8 : Int) : Option R :=
  if (decide (a5 < a8)) = true then
 if (0 : Int) ≤ a5 then
 if a5 < ((List.length xs7 : Nat) : Int) then
 if (decide ((((List.length (List.getD xs7 (Int.toNat a5) [])) : Nat) : Int) ≠ a8)) = true then
 ret (.inl false)
 else
 (f57.l9 k k a5 (0 : Int) xs6 xs7 a8).bind (Sum.elim (fun t20 => ret (.inl t20.1)) (fun t21 => rec_ (IntKind.i64.wrap (t21.1 + (1 : Int))) t21.2.1 t21.2.2.1 t21.2.2.2))
 else none
 else none
 else
 ret (.inr ())
def f57.l4 (k : Nat) : Nat → Int → (List S104) → (List (List S174)) → Int → Option (Bool ⊕ (Unit))
  | 0, _, _, _, _ => none
  | j + 1, a5, xs6, xs7, a8 => f57.l4.step k (fun a5 xs6 xs7 a8 => f57.l4 k j a5 xs6 xs7 a8) some a5 xs6 xs7 a8
def f57.l4.w {R : Type} : (Bool ⊕ (Unit)) → (Exit → St env → Option R) → Option R := fun x K => Sum.elim (fun t26 => K .ret ⟨fullT [2] 0 113 [.v (.c (.s (.bool t26)))], [], 1905⟩) (fun t27 => K (.exit 0) ⟨fullT [] 0 113 [], [], 1905⟩) x
def f57.l4.st (a5 : Int) (xs6 : List S104) (xs7 : List (List S174)) (a8 : Int) : St env := ⟨fullT [1, 3] 0 113 [.v (.c (.bp 1 0)), .v (.c (.s (.int .i64 a5)))], [(1, .box [.imm 104 xs6, .imm 171 xs7, .s (.int .i64 a8)])], 273⟩
def f57.l9.hd (k : Nat) (ts_ : List (AV env)) (mm_ : Mem env) (n_ : Nat) : LCl env :=
  gTs Ln [1, 3, 4] 113 ts_ fun l_ => tP Ln 1 l_ fun l_ => tI Ln l_ fun a9 l_ => tI Ln l_ fun a10 l_ => gE Ln l_ <| mBox Ln 1 mm_ fun c_ m_ => cM Ln 104 c_ fun xs11 c_ => cM Ln 171 c_ fun xs12 c_ => cI Ln c_ fun a13 c_ => gE Ln c_ <| gE Ln m_ <| gN Ln 497 n_ { α := (Bool × Int × (List S104) × (List (List S174)) × Int) ⊕ (Int × (List S104) × (List (List S174)) × Int), o := f57.l9 k k a9 a10 xs11 xs12 a13, w := f57.l9.w }
def f57.l4.hd (k : Nat) (ts_ : List (AV env)) (mm_ : Mem env) (n_ : Nat) : LCl env :=
  gTs Ln [1, 3] 113 ts_ fun l_ => tP Ln 1 l_ fun l_ => tI Ln l_ fun a5 l_ => gE Ln l_ <| mBox Ln 1 mm_ fun c_ m_ => cM Ln 104 c_ fun xs6 c_ => cM Ln 171 c_ fun xs7 c_ => cI Ln c_ fun a8 c_ => gE Ln c_ <| gE Ln m_ <| gN Ln 273 n_ { α := Bool ⊕ (Unit), o := f57.l4 k k a5 xs6 xs7 a8, w := f57.l4.w }
def f57.step {R : Type} (k : Nat) (ret : Bool → Option R) (xs1 : List S104) (xs2 : List (List S174)) (a3 : Int) : Option R :=
  (f135 k a3 xs1).bind fun t4 => if (!t4) = false then
 if (decide ((((List.length xs2) : Nat) : Int) ≠ a3)) = true then
 ret false
 else
 (f57.l4 k k (0 : Int) xs1 xs2 a3).bind (Sum.elim (fun t22 => ret t22) (fun t23 => ret true))
 else
 ret false
def f57 (k : Nat) (xs1 : List S104) (xs2 : List (List S174)) (a3 : Int) : Option Bool := f57.step k some xs1 xs2 a3
def f57.w {R : Type} : Bool → (Res env → Option R) → Option R := fun t28 K => K ⟨.v (.c (.s (.bool t28))), [[]]⟩
theorem f57.wn (x : Bool) : ∃ res, ∀ {R : Type} (K : Res env → Option R), f57.w x K = K res := by
  exact ⟨_, fun _ => rfl⟩
def f57.hd (k : Nat) (ps_ : List (P2 env)) : Cl env :=
  gC Cl.no ps_ fun p_ ps_ => qG Cl.no p_ fun cs_ => dM Cl.no 104 cs_ fun xs1 cs_ => dM Cl.no 171 cs_ fun xs2 cs_ => dI Cl.no cs_ fun a3 cs_ => gE Cl.no cs_ <| gE Cl.no ps_ <| { α := Bool, o := f57 k xs1 xs2 a3, w := f57.w, nat := fun x _ => f57.wn x }
def f57.e (k : Nat) : Entry env := ⟨fun ps => f57.hd k (coer [[.rd 104, .rd 171, .no]] ps), [], []⟩
def f57.X (k : Nat) : Ctx env := { C := lookE [(61, f61.e k), (135, f135.e k), (136, f136.e k), (137, f137.e k)], L := lookE [(9, fun S => f57.l9.hd k S.ts S.m S.n), (4, fun S => f57.l4.hd k S.ts S.m S.n)], J := lookE [], keep := lookD [(9, [1, 3, 4]), (4, [1, 3])], keepX := lookD [(9, [1, 2, 3]), (4, [2])], span := lookN [(9, 1344), (4, 1632)], eff := fun n => memN n [], prep := lookP [], np := 0 }
theorem f57.l9.nat {R : Type} (k : Nat) (rec_) (g : _ → Option R) (a9 a10 xs11 xs12 a13) : (f57.l9.step k rec_ some a9 a10 xs11 xs12 a13).bind g = f57.l9.step k (fun a9 a10 xs11 xs12 a13 => (rec_ a9 a10 xs11 xs12 a13).bind g) g a9 a10 xs11 xs12 a13 := by
  simp only [f57.l9.step, bind_ite, bind_sum, Option.bind_assoc, Option.bind_some, Option.bind_none]
theorem f57.l9.good (k : Nat) (a9 a10 xs11 xs12 a13) : GoodL (f57.X k) (nthC 1 (loopsOf (bodyOf Try.f57))) (f57.l9.st a9 a10 xs11 xs12 a13) { α := _, o := f57.l9 k k a9 a10 xs11 xs12 a13, w := f57.l9.w } :=
  loop_good (ι := Int × Int × (List S104) × (List (List S174)) × Int) (α := ((Bool × Int × (List S104) × (List (List S174)) × Int) ⊕ (Int × (List S104) × (List (List S174)) × Int))) (fun i => f57.l9.st i.1 i.2.1 i.2.2.1 i.2.2.2.1 i.2.2.2.2) (fun j i => f57.l9 k j i.1 i.2.1 i.2.2.1 i.2.2.2.1 i.2.2.2.2) f57.l9.w (fun rec_ ret i => f57.l9.step k (fun a9 a10 xs11 xs12 a13 => rec_ (a9, a10, xs11, xs12, a13)) ret i.1 i.2.1 i.2.2.1 i.2.2.2.1 i.2.2.2.2)
    (fun _ => rfl) (fun _ _ => rfl) (fun rec_ g i => f57.l9.nat k _ g i.1 i.2.1 i.2.2.1 i.2.2.2.1 i.2.2.2.2) (fun {R} i0 i rec_ K => by kernel_rfl) k (a9, a10, xs11, xs12, a13)
theorem f57.l9.all (k : Nat) (S : St env) : GoodL (f57.X k) (nthC 1 (loopsOf (bodyOf Try.f57))) S (f57.l9.hd k S.ts S.m S.n) := by
  obtain ⟨ts_, m_, n_⟩ := S
  show GoodL _ _ _ (f57.l9.hd k ts_ m_ n_)
  unfold f57.l9.hd
  have hg_ := f57.l9.good k
  exact rdL
theorem f57.l4.nat {R : Type} (k : Nat) (rec_) (g : _ → Option R) (a5 xs6 xs7 a8) : (f57.l4.step k rec_ some a5 xs6 xs7 a8).bind g = f57.l4.step k (fun a5 xs6 xs7 a8 => (rec_ a5 xs6 xs7 a8).bind g) g a5 xs6 xs7 a8 := by
  simp only [f57.l4.step, bind_ite, bind_sum, Option.bind_assoc, Option.bind_some, Option.bind_none]
theorem f57.l4.good (k : Nat) (a5 xs6 xs7 a8) : GoodL (f57.X k) (nthC 0 (loopsOf (bodyOf Try.f57))) (f57.l4.st a5 xs6 xs7 a8) { α := _, o := f57.l4 k k a5 xs6 xs7 a8, w := f57.l4.w } :=
  loop_good (ι := Int × (List S104) × (List (List S174)) × Int) (α := (Bool ⊕ (Unit))) (fun i => f57.l4.st i.1 i.2.1 i.2.2.1 i.2.2.2) (fun j i => f57.l4 k j i.1 i.2.1 i.2.2.1 i.2.2.2) f57.l4.w (fun rec_ ret i => f57.l4.step k (fun a5 xs6 xs7 a8 => rec_ (a5, xs6, xs7, a8)) ret i.1 i.2.1 i.2.2.1 i.2.2.2)
    (fun _ => rfl) (fun _ _ => rfl) (fun rec_ g i => f57.l4.nat k _ g i.1 i.2.1 i.2.2.1 i.2.2.2) (fun {R} i0 i rec_ K => by kernel_rfl) k (a5, xs6, xs7, a8)
theorem f57.l4.all (k : Nat) (S : St env) : GoodL (f57.X k) (nthC 0 (loopsOf (bodyOf Try.f57))) S (f57.l4.hd k S.ts S.m S.n) := by
  obtain ⟨ts_, m_, n_⟩ := S
  show GoodL _ _ _ (f57.l4.hd k ts_ m_ n_)
  unfold f57.l4.hd
  have hg_ := f57.l4.good k
  exact rdL
theorem f57.nat {R : Type} (k : Nat) (g : _ → Option R) (xs1 xs2 a3) : f57.step k g xs1 xs2 a3 = (f57 k xs1 xs2 a3).bind g := by
  simp only [f57, f57.step, bind_ite, bind_sum, Option.bind_assoc, Option.bind_some, Option.bind_none]
theorem f57.ev (k : Nat) (xs1 : List S104) (xs2 : List (List S174)) (a3 : Int) : evF (f57.X k) (bodyOf Try.f57) Try.f57.ntmps Try.f57.results.toList [.g [.sl 104 xs1, .sl 171 xs2, .s (.int .i64 a3)]] = f57.step k (fun x => f57.w x some) xs1 xs2 a3 := by kernel_rfl
theorem f57.hok (k : Nat) : HOK (f57.X k) (bodyOf Try.f57) where
  l := allP_mem (by exact ⟨ls_of (h0 := fun S => f57.l4.hd k S.ts S.m S.n) (by kernel_rfl) (f57.l4.all k), ls_of (h0 := fun S => f57.l9.hd k S.ts S.m S.n) (by kernel_rfl) (f57.l9.all k), trivial⟩)
  j := allP_mem (by exact trivial)
  q := allP_mem (by exact trivial)
theorem f57.sound0 (k : Nat) : SoundC env Try.prog 57 (f57.hd k) := by
  intro ps_
  show GoodC _ _ _ ps_ (f57.hd k ps_)
  unfold f57.hd
  have hF_ := fun_sound envOK (cs_sound _ (by exact ⟨⟨f61.sound k, f61.fnok⟩, ⟨f135.sound k, f135.fnok⟩, ⟨f136.sound k, f136.fnok⟩, ⟨f137.sound k, f137.fnok⟩, trivial⟩)) (f57.hok k) Try.func57 rfl
  have hev_ := f57.ev k
  have hnat_ := fun g_ => f57.nat k (R := Res env) g_
  exact rdC
theorem f57.sound (k : Nat) : SoundC env Try.prog 57 (f57.e k).F := soundC_coer (f57.sound0 k) [[.rd 104, .rd 171, .no]]
theorem f57.fnok : FnOK Try.prog 57 := fn_ok Try.func57 (by kernel_rfl) rfl
def f181.l3.step {R : Type} (k : Nat) (rec_ : Int → (List S104) → (List (List S174)) → Int → Int → (List S104) → Int → (List (List S174)) → Option R) (ret : (Int × (List S104) × Int × (List (List S174))) → Option R) (a4 : Int) (xs5 : List S104) (xs6 : List (List S174)) (a7 : Int) (a8 : Int) (xs9 : List S104) (a10 : Int) (xs11 : List (List S174)) : Option R :=
  if (decide (a4 < (((List.length xs6) : Nat) : Int))) = true then
 if (0 : Int) ≤ a4 then
 if a4 < ((List.length xs6 : Nat) : Int) then
 if (List.length ([] : List S174) + List.length (List.getD xs6 (Int.toNat a4) [])) * 24 ≤ maxN then
 if (List.length xs11 + List.length ([(([] : List S174) ++ (List.getD xs6 (Int.toNat a4) []))] : List (List S174))) * 24 ≤ maxN then
 rec_ (IntKind.i64.wrap (a4 + (1 : Int))) xs5 xs6 a7 a8 xs9 a10 (xs11 ++ ([(([] : List S174) ++ (List.getD xs6 (Int.toNat a4) []))] : List (List S174)))
 else none
 else none
 else none
 else none
 else
 ret (a8, xs9, a10, xs11)
def f181.l3 (k : Nat) : Nat → Int → (List S104) → (List (List S174)) → Int → Int → (List S104) → Int → (List (List S174)) → Option (Int × (List S104) × Int × (List (List S174)))
  | 0, _, _, _, _, _, _, _, _ => none
  | j + 1, a4, xs5, xs6, a7, a8, xs9, a10, xs11 => f181.l3.step k (fun a4 xs5 xs6 a7 a8 xs9 a10 xs11 => f181.l3 k j a4 xs5 xs6 a7 a8 xs9 a10 xs11) some a4 xs5 xs6 a7 a8 xs9 a10 xs11
def f181.l3.w {R : Type} : (Int × (List S104) × Int × (List (List S174))) → (Exit → St env → Option R) → Option R := fun t13 K => K (.exit 0) ⟨fullT [2, 3] 0 32 [.v (.c (.bp 17 0)), .v (.c (.bp 65 0))], [(17, .box [.s (.slice none 0 0), .s (.slice none 0 0), .s (.int .i64 t13.1)]), (49, .row true 104 t13.2.1), (65, .box [.row 49, .row 113, .s (.int .i64 t13.2.2.1)]), (113, .row true 171 t13.2.2.2)], 465⟩
def f181.l3.st (a4 : Int) (xs5 : List S104) (xs6 : List (List S174)) (a7 : Int) (a8 : Int) (xs9 : List S104) (a10 : Int) (xs11 : List (List S174)) : St env := ⟨fullT [1, 2, 3, 4] 0 32 [.v (.c (.bp 1 0)), .v (.c (.bp 17 0)), .v (.c (.bp 65 0)), .v (.c (.s (.int .i64 a4)))], [(1, .box [.imm 104 xs5, .imm 171 xs6, .s (.int .i64 a7)]), (17, .box [.s (.slice none 0 0), .s (.slice none 0 0), .s (.int .i64 a8)]), (49, .row true 104 xs9), (65, .box [.row 49, .row 113, .s (.int .i64 a10)]), (113, .row true 171 xs11)], 129⟩
def f181.l3.hd (k : Nat) (ts_ : List (AV env)) (mm_ : Mem env) (n_ : Nat) : LCl env :=
  gTs Ln [1, 2, 3, 4] 32 ts_ fun l_ => tP Ln 1 l_ fun l_ => tP Ln 17 l_ fun l_ => tP Ln 65 l_ fun l_ => tI Ln l_ fun a4 l_ => gE Ln l_ <| mBox Ln 1 mm_ fun c_ m_ => cM Ln 104 c_ fun xs5 c_ => cM Ln 171 c_ fun xs6 c_ => cI Ln c_ fun a7 c_ => gE Ln c_ <| mBox Ln 17 m_ fun c_ m_ => cN Ln c_ fun c_ => cN Ln c_ fun c_ => cI Ln c_ fun a8 c_ => gE Ln c_ <| mRow Ln 49 true 104 m_ fun xs9 m_ => mBox Ln 65 m_ fun c_ m_ => cR Ln 49 c_ fun c_ => cR Ln 113 c_ fun c_ => cI Ln c_ fun a10 c_ => gE Ln c_ <| mRow Ln 113 true 171 m_ fun xs11 m_ => gE Ln m_ <| gN Ln 129 n_ { α := Int × (List S104) × Int × (List (List S174)), o := f181.l3 k k a4 xs5 xs6 a7 a8 xs9 a10 xs11, w := f181.l3.w }
def f181.step {R : Type} (k : Nat) (ret : ((List S104) × (List (List S174)) × Int) → Option R) (xs1 : List S104) (xs2 : List (List S174)) (a3 : Int) : Option R :=
  if (List.length ([] : List S104) + List.length xs1) * 32 ≤ maxN then
 (f181.l3 k k (0 : Int) xs1 xs2 a3 (0 : Int) (([] : List S104) ++ xs1) a3 ([] : List (List S174))).bind fun t12 => ret (t12.2.1, t12.2.2.2, t12.2.2.1)
 else none
def f181 (k : Nat) (xs1 : List S104) (xs2 : List (List S174)) (a3 : Int) : Option ((List S104) × (List (List S174)) × Int) := f181.step k some xs1 xs2 a3
def f181.w {R : Type} : ((List S104) × (List (List S174)) × Int) → (Res env → Option R) → Option R := fun t14 K => K ⟨.v (.g [.own true 104 t14.1, .own true 171 t14.2.1, .s (.int .i64 t14.2.2)]), [[]]⟩
theorem f181.wn (x : ((List S104) × (List (List S174)) × Int)) : ∃ res, ∀ {R : Type} (K : Res env → Option R), f181.w x K = K res := by
  exact ⟨_, fun _ => rfl⟩
def f181.hd (k : Nat) (ps_ : List (P2 env)) : Cl env :=
  gC Cl.no ps_ fun p_ ps_ => qG Cl.no p_ fun cs_ => dM Cl.no 104 cs_ fun xs1 cs_ => dM Cl.no 171 cs_ fun xs2 cs_ => dI Cl.no cs_ fun a3 cs_ => gE Cl.no cs_ <| gE Cl.no ps_ <| { α := (List S104) × (List (List S174)) × Int, o := f181 k xs1 xs2 a3, w := f181.w, nat := fun x _ => f181.wn x }
def f181.e (k : Nat) : Entry env := ⟨fun ps => f181.hd k (coer [[.rd 104, .rd 171, .no]] ps), [], []⟩
def f181.X (k : Nat) : Ctx env := { C := lookE [], L := lookE [(3, fun S => f181.l3.hd k S.ts S.m S.n)], J := lookE [], keep := lookD [(3, [1, 2, 3, 4])], keepX := lookD [(3, [2, 3])], span := lookN [(3, 336)], eff := fun n => memN n [1, 5], prep := lookP [(3, [.nilB 65 1 171])], np := 0 }
theorem f181.l3.nat {R : Type} (k : Nat) (rec_) (g : _ → Option R) (a4 xs5 xs6 a7 a8 xs9 a10 xs11) : (f181.l3.step k rec_ some a4 xs5 xs6 a7 a8 xs9 a10 xs11).bind g = f181.l3.step k (fun a4 xs5 xs6 a7 a8 xs9 a10 xs11 => (rec_ a4 xs5 xs6 a7 a8 xs9 a10 xs11).bind g) g a4 xs5 xs6 a7 a8 xs9 a10 xs11 := by
  simp only [f181.l3.step, bind_ite, bind_sum, Option.bind_assoc, Option.bind_some, Option.bind_none]
theorem f181.l3.good (k : Nat) (a4 xs5 xs6 a7 a8 xs9 a10 xs11) : GoodL (f181.X k) (nthC 0 (loopsOf (bodyOf Try.f181))) (f181.l3.st a4 xs5 xs6 a7 a8 xs9 a10 xs11) { α := _, o := f181.l3 k k a4 xs5 xs6 a7 a8 xs9 a10 xs11, w := f181.l3.w } :=
  loop_good (ι := Int × (List S104) × (List (List S174)) × Int × Int × (List S104) × Int × (List (List S174))) (α := (Int × (List S104) × Int × (List (List S174)))) (fun i => f181.l3.st i.1 i.2.1 i.2.2.1 i.2.2.2.1 i.2.2.2.2.1 i.2.2.2.2.2.1 i.2.2.2.2.2.2.1 i.2.2.2.2.2.2.2) (fun j i => f181.l3 k j i.1 i.2.1 i.2.2.1 i.2.2.2.1 i.2.2.2.2.1 i.2.2.2.2.2.1 i.2.2.2.2.2.2.1 i.2.2.2.2.2.2.2) f181.l3.w (fun rec_ ret i => f181.l3.step k (fun a4 xs5 xs6 a7 a8 xs9 a10 xs11 => rec_ (a4, xs5, xs6, a7, a8, xs9, a10, xs11)) ret i.1 i.2.1 i.2.2.1 i.2.2.2.1 i.2.2.2.2.1 i.2.2.2.2.2.1 i.2.2.2.2.2.2.1 i.2.2.2.2.2.2.2)
    (fun _ => rfl) (fun _ _ => rfl) (fun rec_ g i => f181.l3.nat k _ g i.1 i.2.1 i.2.2.1 i.2.2.2.1 i.2.2.2.2.1 i.2.2.2.2.2.1 i.2.2.2.2.2.2.1 i.2.2.2.2.2.2.2) (fun {R} i0 i rec_ K => by kernel_rfl) k (a4, xs5, xs6, a7, a8, xs9, a10, xs11)
theorem f181.l3.all (k : Nat) (S : St env) : GoodL (f181.X k) (nthC 0 (loopsOf (bodyOf Try.f181))) S (f181.l3.hd k S.ts S.m S.n) := by
  obtain ⟨ts_, m_, n_⟩ := S
  show GoodL _ _ _ (f181.l3.hd k ts_ m_ n_)
  unfold f181.l3.hd
  have hg_ := f181.l3.good k
  exact rdL
theorem f181.nat {R : Type} (k : Nat) (g : _ → Option R) (xs1 xs2 a3) : f181.step k g xs1 xs2 a3 = (f181 k xs1 xs2 a3).bind g := by
  simp only [f181, f181.step, bind_ite, bind_sum, Option.bind_assoc, Option.bind_some, Option.bind_none]
theorem f181.ev (k : Nat) (xs1 : List S104) (xs2 : List (List S174)) (a3 : Int) : evF (f181.X k) (bodyOf Try.f181) Try.f181.ntmps Try.f181.results.toList [.g [.sl 104 xs1, .sl 171 xs2, .s (.int .i64 a3)]] = f181.step k (fun x => f181.w x some) xs1 xs2 a3 := by kernel_rfl
theorem f181.hok (k : Nat) : HOK (f181.X k) (bodyOf Try.f181) where
  l := allP_mem (by exact ⟨ls_of (h0 := fun S => f181.l3.hd k S.ts S.m S.n) (by kernel_rfl) (f181.l3.all k), trivial⟩)
  j := allP_mem (by exact trivial)
  q := allP_mem (by exact trivial)
theorem f181.sound0 (k : Nat) : SoundC env Try.prog 181 (f181.hd k) := by
  intro ps_
  show GoodC _ _ _ ps_ (f181.hd k ps_)
  unfold f181.hd
  have hF_ := fun_sound envOK (cs_sound _ (by exact trivial)) (f181.hok k) Try.func181 rfl
  have hev_ := f181.ev k
  have hnat_ := fun g_ => f181.nat k (R := Res env) g_
  exact rdC
theorem f181.sound (k : Nat) : SoundC env Try.prog 181 (f181.e k).F := soundC_coer (f181.sound0 k) [[.rd 104, .rd 171, .no]]
theorem f181.fnok : FnOK Try.prog 181 := fn_ok Try.func181 (by kernel_rfl) rfl
def f162.step {R : Type} (k : Nat) (ret : Int → Option R) (b1 : Bool) (a2 : Int) : Option R :=
  if b1 = true then
 ret a2
 else
 ret (0 : Int)
def f162 (k : Nat) (b1 : Bool) (a2 : Int) : Option Int := f162.step k some b1 a2
def f162.w {R : Type} : Int → (Res env → Option R) → Option R := fun t3 K => K ⟨.v (.c (.s (.int .i64 t3))), [[], []]⟩
theorem f162.wn (x : Int) : ∃ res, ∀ {R : Type} (K : Res env → Option R), f162.w x K = K res := by
  exact ⟨_, fun _ => rfl⟩
def f162.hd (k : Nat) (ps_ : List (P2 env)) : Cl env :=
  pB Cl.no ps_ fun b1 ps_ => pI Cl.no ps_ fun a2 ps_ => gE Cl.no ps_ <| { α := Int, o := f162 k b1 a2, w := f162.w, nat := fun x _ => f162.wn x }
def f162.e (k : Nat) : Entry env := ⟨f162.hd k, [], []⟩
def f162.X (k : Nat) : Ctx env := { C := lookE [], L := lookE [], J := lookE [], keep := lookD [], keepX := lookD [], span := lookN [], eff := fun n => memN n [], prep := lookP [], np := 0 }
theorem f162.nat {R : Type} (k : Nat) (g : _ → Option R) (b1 a2) : f162.step k g b1 a2 = (f162 k b1 a2).bind g := by
  simp only [f162, f162.step, bind_ite, bind_sum, Option.bind_assoc, Option.bind_some, Option.bind_none]
theorem f162.ev (k : Nat) (b1 : Bool) (a2 : Int) : evF (f162.X k) (bodyOf Try.f162) Try.f162.ntmps Try.f162.results.toList [.v (.c (.s (.bool b1))), .v (.c (.s (.int .i64 a2)))] = f162.step k (fun x => f162.w x some) b1 a2 := by kernel_rfl
theorem f162.hok (k : Nat) : HOK (f162.X k) (bodyOf Try.f162) where
  l := allP_mem (by exact trivial)
  j := allP_mem (by exact trivial)
  q := allP_mem (by exact trivial)
theorem f162.sound (k : Nat) : SoundC env Try.prog 162 ((f162.e k).F) := by
  intro ps_
  show GoodC _ _ _ ps_ (f162.hd k ps_)
  unfold f162.hd
  have hF_ := fun_sound envOK (cs_sound _ (by exact trivial)) (f162.hok k) Try.func162 rfl
  have hev_ := f162.ev k
  have hnat_ := fun g_ => f162.nat k (R := Res env) g_
  exact rdC
theorem f162.fnok : FnOK Try.prog 162 := fn_ok Try.func162 (by kernel_rfl) rfl
def f201.l3.step {R : Type} (k : Nat) (rec_ : Int → Int → Int → (List S104) → (List (List S174)) → Int → (List Int) → Option R) (ret : ((List Int)) → Option R) (a6 : Int) (a7 : Int) (a8 : Int) (xs9 : List S104) (xs10 : List (List S174)) (a11 : Int) (xs12 : List Int) : Option R :=
  if (decide (a8 < a11)) = true then
 if (0 : Int) ≤ a6 then
 if a6 < ((List.length xs10 : Nat) : Int) then
 if (0 : Int) ≤ a8 then
 if a8 < ((List.length (List.getD xs10 (Int.toNat a6) []) : Nat) : Int) then
 if (decide (a8 ≠ a6)) = true then
 if (decide ((List.getD (List.getD xs10 (Int.toNat a6) []) (Int.toNat a8) (⟨(0 : Int), (0 : Int), (0 : Int)⟩ : S174)).f1 = a7)) = true then
 if (List.length xs12 + List.length ([(16 : Int)] : List Int)) * 8 ≤ maxN then
 rec_ a6 a7 (IntKind.i64.wrap (a8 + (1 : Int))) xs9 xs10 a11 (xs12 ++ ([(16 : Int)] : List Int))
 else none
 else
 if (List.length xs12 + List.length ([(List.getD (List.getD xs10 (Int.toNat a6) []) (Int.toNat a8) (⟨(0 : Int), (0 : Int), (0 : Int)⟩ : S174)).f0] : List Int)) * 8 ≤ maxN then
 rec_ a6 a7 (IntKind.i64.wrap (a8 + (1 : Int))) xs9 xs10 a11 (xs12 ++ ([(List.getD (List.getD xs10 (Int.toNat a6) []) (Int.toNat a8) (⟨(0 : Int), (0 : Int), (0 : Int)⟩ : S174)).f0] : List Int))
 else none
 else
 if (List.length xs12 + List.length ([(List.getD (List.getD xs10 (Int.toNat a6) []) (Int.toNat a8) (⟨(0 : Int), (0 : Int), (0 : Int)⟩ : S174)).f0] : List Int)) * 8 ≤ maxN then
 rec_ a6 a7 (IntKind.i64.wrap (a8 + (1 : Int))) xs9 xs10 a11 (xs12 ++ ([(List.getD (List.getD xs10 (Int.toNat a6) []) (Int.toNat a8) (⟨(0 : Int), (0 : Int), (0 : Int)⟩ : S174)).f0] : List Int))
 else none
 else none
 else none
 else none
 else none
 else
 ret xs12
def f201.l3 (k : Nat) : Nat → Int → Int → Int → (List S104) → (List (List S174)) → Int → (List Int) → Option ((List Int))
  | 0, _, _, _, _, _, _, _ => none
  | j + 1, a6, a7, a8, xs9, xs10, a11, xs12 => f201.l3.step k (fun a6 a7 a8 xs9 xs10 a11 xs12 => f201.l3 k j a6 a7 a8 xs9 xs10 a11 xs12) some a6 a7 a8 xs9 xs10 a11 xs12
def f201.l3.w {R : Type} : ((List Int)) → (Exit → St env → Option R) → Option R := fun t14 K => K (.exit 0) ⟨fullT [7] 0 43 [.v (.c (.row 35))], [(35, .row true 3 t14)], 595⟩
def f201.l3.st (a6 : Int) (a7 : Int) (a8 : Int) (xs9 : List S104) (xs10 : List (List S174)) (a11 : Int) (xs12 : List Int) : St env := ⟨fullT [1, 2, 3, 7, 8] 0 43 [.v (.c (.s (.int .i64 a6))), .v (.c (.s (.int .i64 a7))), .v (.c (.bp 3 0)), .v (.c (.row 35)), .v (.c (.s (.int .i64 a8)))], [(3, .box [.imm 104 xs9, .imm 171 xs10, .s (.int .i64 a11)]), (35, .row true 3 xs12)], 83⟩
def f201.l3.hd (k : Nat) (ts_ : List (AV env)) (mm_ : Mem env) (n_ : Nat) : LCl env :=
  gTs Ln [1, 2, 3, 7, 8] 43 ts_ fun l_ => tI Ln l_ fun a6 l_ => tI Ln l_ fun a7 l_ => tP Ln 3 l_ fun l_ => tR Ln 35 l_ fun l_ => tI Ln l_ fun a8 l_ => gE Ln l_ <| mBox Ln 3 mm_ fun c_ m_ => cM Ln 104 c_ fun xs9 c_ => cM Ln 171 c_ fun xs10 c_ => cI Ln c_ fun a11 c_ => gE Ln c_ <| mRow Ln 35 true 3 m_ fun xs12 m_ => gE Ln m_ <| gN Ln 83 n_ { α := (List Int), o := f201.l3 k k a6 a7 a8 xs9 xs10 a11 xs12, w := f201.l3.w }
def f201.step {R : Type} (k : Nat) (ret : ((List Int)) → Option R) (xs1 : List S104) (xs2 : List (List S174)) (a3 : Int) (a4 : Int) (a5 : Int) : Option R :=
  (f201.l3 k k a4 a5 (0 : Int) xs1 xs2 a3 ([] : List Int)).bind fun t13 => ret t13
def f201 (k : Nat) (xs1 : List S104) (xs2 : List (List S174)) (a3 : Int) (a4 : Int) (a5 : Int) : Option ((List Int)) := f201.step k some xs1 xs2 a3 a4 a5
def f201.w {R : Type} : ((List Int)) → (Res env → Option R) → Option R := fun t15 K => K ⟨.v (.c (.own true 3 t15)), [[], [], []]⟩
theorem f201.wn (x : ((List Int))) : ∃ res, ∀ {R : Type} (K : Res env → Option R), f201.w x K = K res := by
  exact ⟨_, fun _ => rfl⟩
def f201.hd (k : Nat) (ps_ : List (P2 env)) : Cl env :=
  gC Cl.no ps_ fun p_ ps_ => qG Cl.no p_ fun cs_ => dM Cl.no 104 cs_ fun xs1 cs_ => dM Cl.no 171 cs_ fun xs2 cs_ => dI Cl.no cs_ fun a3 cs_ => gE Cl.no cs_ <| pI Cl.no ps_ fun a4 ps_ => pI Cl.no ps_ fun a5 ps_ => gE Cl.no ps_ <| { α := (List Int), o := f201 k xs1 xs2 a3 a4 a5, w := f201.w, nat := fun x _ => f201.wn x }
def f201.e (k : Nat) : Entry env := ⟨fun ps => f201.hd k (coer [[.rd 104, .rd 171, .no], [.no], [.no]] ps), [], []⟩
def f201.X (k : Nat) : Ctx env := { C := lookE [], L := lookE [(3, fun S => f201.l3.hd k S.ts S.m S.n)], J := lookE [], keep := lookD [(3, [1, 2, 3, 7, 8])], keepX := lookD [(3, [7])], span := lookN [(3, 512)], eff := fun n => memN n [], prep := lookP [], np := 0 }
theorem f201.l3.nat {R : Type} (k : Nat) (rec_) (g : _ → Option R) (a6 a7 a8 xs9 xs10 a11 xs12) : (f201.l3.step k rec_ some a6 a7 a8 xs9 xs10 a11 xs12).bind g = f201.l3.step k (fun a6 a7 a8 xs9 xs10 a11 xs12 => (rec_ a6 a7 a8 xs9 xs10 a11 xs12).bind g) g a6 a7 a8 xs9 xs10 a11 xs12 := by
  simp only [f201.l3.step, bind_ite, bind_sum, Option.bind_assoc, Option.bind_some, Option.bind_none]
theorem f201.l3.good (k : Nat) (a6 a7 a8 xs9 xs10 a11 xs12) : GoodL (f201.X k) (nthC 0 (loopsOf (bodyOf Try.f201))) (f201.l3.st a6 a7 a8 xs9 xs10 a11 xs12) { α := _, o := f201.l3 k k a6 a7 a8 xs9 xs10 a11 xs12, w := f201.l3.w } :=
  loop_good (ι := Int × Int × Int × (List S104) × (List (List S174)) × Int × (List Int)) (α := ((List Int))) (fun i => f201.l3.st i.1 i.2.1 i.2.2.1 i.2.2.2.1 i.2.2.2.2.1 i.2.2.2.2.2.1 i.2.2.2.2.2.2) (fun j i => f201.l3 k j i.1 i.2.1 i.2.2.1 i.2.2.2.1 i.2.2.2.2.1 i.2.2.2.2.2.1 i.2.2.2.2.2.2) f201.l3.w (fun rec_ ret i => f201.l3.step k (fun a6 a7 a8 xs9 xs10 a11 xs12 => rec_ (a6, a7, a8, xs9, xs10, a11, xs12)) ret i.1 i.2.1 i.2.2.1 i.2.2.2.1 i.2.2.2.2.1 i.2.2.2.2.2.1 i.2.2.2.2.2.2)
    (fun _ => rfl) (fun _ _ => rfl) (fun rec_ g i => f201.l3.nat k _ g i.1 i.2.1 i.2.2.1 i.2.2.2.1 i.2.2.2.2.1 i.2.2.2.2.2.1 i.2.2.2.2.2.2) (fun {R} i0 i rec_ K => by kernel_rfl) k (a6, a7, a8, xs9, xs10, a11, xs12)
theorem f201.l3.all (k : Nat) (S : St env) : GoodL (f201.X k) (nthC 0 (loopsOf (bodyOf Try.f201))) S (f201.l3.hd k S.ts S.m S.n) := by
  obtain ⟨ts_, m_, n_⟩ := S
  show GoodL _ _ _ (f201.l3.hd k ts_ m_ n_)
  unfold f201.l3.hd
  have hg_ := f201.l3.good k
  exact rdL
theorem f201.nat {R : Type} (k : Nat) (g : _ → Option R) (xs1 xs2 a3 a4 a5) : f201.step k g xs1 xs2 a3 a4 a5 = (f201 k xs1 xs2 a3 a4 a5).bind g := by
  simp only [f201, f201.step, bind_ite, bind_sum, Option.bind_assoc, Option.bind_some, Option.bind_none]
theorem f201.ev (k : Nat) (xs1 : List S104) (xs2 : List (List S174)) (a3 : Int) (a4 : Int) (a5 : Int) : evF (f201.X k) (bodyOf Try.f201) Try.f201.ntmps Try.f201.results.toList [.g [.sl 104 xs1, .sl 171 xs2, .s (.int .i64 a3)], .v (.c (.s (.int .i64 a4))), .v (.c (.s (.int .i64 a5)))] = f201.step k (fun x => f201.w x some) xs1 xs2 a3 a4 a5 := by kernel_rfl
theorem f201.hok (k : Nat) : HOK (f201.X k) (bodyOf Try.f201) where
  l := allP_mem (by exact ⟨ls_of (h0 := fun S => f201.l3.hd k S.ts S.m S.n) (by kernel_rfl) (f201.l3.all k), trivial⟩)
  j := allP_mem (by exact trivial)
  q := allP_mem (by exact trivial)
theorem f201.sound0 (k : Nat) : SoundC env Try.prog 201 (f201.hd k) := by
  intro ps_
  show GoodC _ _ _ ps_ (f201.hd k ps_)
  unfold f201.hd
  have hF_ := fun_sound envOK (cs_sound _ (by exact trivial)) (f201.hok k) Try.func201 rfl
  have hev_ := f201.ev k
  have hnat_ := fun g_ => f201.nat k (R := Res env) g_
  exact rdC
theorem f201.sound (k : Nat) : SoundC env Try.prog 201 (f201.e k).F := soundC_coer (f201.sound0 k) [[.rd 104, .rd 171, .no], [.no], [.no]]
theorem f201.fnok : FnOK Try.prog 201 := fn_ok Try.func201 (by kernel_rfl) rfl
def f200.l1.step {R : Type} (k : Nat) (rec_ : Int → Int → Int → (List Int) → Int → (List S174) → Option R) (ret : ((List S174)) → Option R) (a6 : Int) (a7 : Int) (a8 : Int) (xs9 : List Int) (a10 : Int) (xs11 : List S174) : Option R :=
  if (decide (a10 < (((List.length xs11) : Nat) : Int))) = true then
 if (decide (a10 = a6)) = true then
 rec_ a6 a7 a8 xs9 (IntKind.i64.wrap (a10 + (1 : Int))) xs11
 else
 if (0 : Int) ≤ a10 then
 if a10 < ((List.length xs9 : Nat) : Int) then
 if (0 : Int) ≤ a10 then
 if a10 < ((List.length xs11 : Nat) : Int) then
 if (decide ((List.getD xs11 (Int.toNat a10) (⟨(0 : Int), (0 : Int), (0 : Int)⟩ : S174)).f1 = a7)) = true then
 if (decide ((if (IntKind.i64.wrap ((List.getD xs9 (Int.toNat a10) (0 : Int)) + a8)) < (16 : Int) then (IntKind.i64.wrap ((List.getD xs9 (Int.toNat a10) (0 : Int)) + a8)) else (16 : Int)) = (16 : Int))) = true then
 if (0 : Int) ≤ a10 then
 if a10 < ((List.length xs11 : Nat) : Int) then
 rec_ a6 a7 a8 xs9 (IntKind.i64.wrap (a10 + (1 : Int))) (List.set xs11 (Int.toNat a10) (⟨(if (IntKind.i64.wrap ((List.getD xs9 (Int.toNat a10) (0 : Int)) + a8)) < (16 : Int) then (IntKind.i64.wrap ((List.getD xs9 (Int.toNat a10) (0 : Int)) + a8)) else (16 : Int)), a7, (List.getD xs11 (Int.toNat a10) (⟨(0 : Int), (0 : Int), (0 : Int)⟩ : S174)).f2⟩ : S174))
 else none
 else none
 else
 if (0 : Int) ≤ a10 then
 if a10 < ((List.length xs11 : Nat) : Int) then
 rec_ a6 a7 a8 xs9 (IntKind.i64.wrap (a10 + (1 : Int))) (List.set xs11 (Int.toNat a10) (⟨(if (IntKind.i64.wrap ((List.getD xs9 (Int.toNat a10) (0 : Int)) + a8)) < (16 : Int) then (IntKind.i64.wrap ((List.getD xs9 (Int.toNat a10) (0 : Int)) + a8)) else (16 : Int)), a7, (0 : Int)⟩ : S174))
 else none
 else none
 else
 if (decide ((if (IntKind.i64.wrap ((List.getD xs9 (Int.toNat a10) (0 : Int)) + a8)) < (16 : Int) then (IntKind.i64.wrap ((List.getD xs9 (Int.toNat a10) (0 : Int)) + a8)) else (16 : Int)) < (List.getD xs11 (Int.toNat a10) (⟨(0 : Int), (0 : Int), (0 : Int)⟩ : S174)).f0)) = true then
 if (0 : Int) ≤ a10 then
 if a10 < ((List.length xs11 : Nat) : Int) then
 rec_ a6 a7 a8 xs9 (IntKind.i64.wrap (a10 + (1 : Int))) (List.set xs11 (Int.toNat a10) (⟨(if (IntKind.i64.wrap ((List.getD xs9 (Int.toNat a10) (0 : Int)) + a8)) < (16 : Int) then (IntKind.i64.wrap ((List.getD xs9 (Int.toNat a10) (0 : Int)) + a8)) else (16 : Int)), a7, (0 : Int)⟩ : S174))
 else none
 else none
 else
 rec_ a6 a7 a8 xs9 (IntKind.i64.wrap (a10 + (1 : Int))) xs11
 else none
 else none
 else none
 else none
 else
 ret xs11
def f200.l1 (k : Nat) : Nat → Int → Int → Int → (List Int) → Int → (List S174) → Option ((List S174))
  | 0, _, _, _, _, _, _ => none
  | j + 1, a6, a7, a8, xs9, a10, xs11 => f200.l1.step k (fun a6 a7 a8 xs9 a10 xs11 => f200.l1 k j a6 a7 a8 xs9 a10 xs11) some a6 a7 a8 xs9 a10 xs11
def f200.l1.w {R : Type} : ((List S174)) → (Exit → St env → Option R) → Option R := fun t13 K => K (.exit 0) ⟨fullT [0] 0 61 [.v (.c (.row 5))], [(5, .row true 174 t13)], 1029⟩
def f200.l1.st (a6 : Int) (a7 : Int) (a8 : Int) (xs9 : List Int) (a10 : Int) (xs11 : List S174) : St env := ⟨fullT [0, 1, 2, 3, 4, 10] 0 61 [.v (.c (.row 5)), .v (.c (.s (.int .i64 a6))), .v (.c (.s (.int .i64 a7))), .v (.c (.s (.int .i64 a8))), .v (.c (.imm 3 xs9)), .v (.c (.s (.int .i64 a10)))], [(5, .row true 174 xs11)], 341⟩
def f200.l1.hd (k : Nat) (ts_ : List (AV env)) (mm_ : Mem env) (n_ : Nat) : LCl env :=
  gTs Ln [0, 1, 2, 3, 4, 10] 61 ts_ fun l_ => tR Ln 5 l_ fun l_ => tI Ln l_ fun a6 l_ => tI Ln l_ fun a7 l_ => tI Ln l_ fun a8 l_ => tM Ln 3 l_ fun xs9 l_ => tI Ln l_ fun a10 l_ => gE Ln l_ <| mRow Ln 5 true 174 mm_ fun xs11 m_ => gE Ln m_ <| gN Ln 341 n_ { α := (List S174), o := f200.l1 k k a6 a7 a8 xs9 a10 xs11, w := f200.l1.w }
def f200.step {R : Type} (k : Nat) (ret : ((List S174)) → Option R) (xs1 : List S174) (a2 : Int) (a3 : Int) (a4 : Int) (xs5 : List Int) : Option R :=
  (f200.l1 k k a2 a3 a4 xs5 (0 : Int) xs1).bind fun t12 => ret t12
def f200 (k : Nat) (xs1 : List S174) (a2 : Int) (a3 : Int) (a4 : Int) (xs5 : List Int) : Option ((List S174)) := f200.step k some xs1 a2 a3 a4 xs5
def f200.w {R : Type} : ((List S174)) → (Res env → Option R) → Option R := fun t14 K => K ⟨.tup [], [[.sl 174 t14], [], [], [], []]⟩
theorem f200.wn (x : ((List S174))) : ∃ res, ∀ {R : Type} (K : Res env → Option R), f200.w x K = K res := by
  exact ⟨_, fun _ => rfl⟩
def f200.hd (k : Nat) (ps_ : List (P2 env)) : Cl env :=
  gC Cl.no ps_ fun p_ ps_ => qC Cl.no p_ fun c_ => qWr Cl.no 174 c_ fun xs1 => pI Cl.no ps_ fun a2 ps_ => pI Cl.no ps_ fun a3 ps_ => pI Cl.no ps_ fun a4 ps_ => pM Cl.no 3 ps_ fun xs5 ps_ => gE Cl.no ps_ <| { α := (List S174), o := f200 k xs1 a2 a3 a4 xs5, w := f200.w, nat := fun x _ => f200.wn x }
def f200.e (k : Nat) : Entry env := ⟨fun ps => f200.hd k (coer [[.wr 174], [.no], [.no], [.no], [.rd 3]] ps), [(0, 0)], []⟩
def f200.X (k : Nat) : Ctx env := { C := lookE [], L := lookE [(1, fun S => f200.l1.hd k S.ts S.m S.n)], J := lookE [], keep := lookD [(1, [0, 1, 2, 3, 4, 10])], keepX := lookD [(1, [0])], span := lookN [(1, 688)], eff := fun n => memN n [], prep := lookP [], np := 325 }
theorem f200.l1.nat {R : Type} (k : Nat) (rec_) (g : _ → Option R) (a6 a7 a8 xs9 a10 xs11) : (f200.l1.step k rec_ some a6 a7 a8 xs9 a10 xs11).bind g = f200.l1.step k (fun a6 a7 a8 xs9 a10 xs11 => (rec_ a6 a7 a8 xs9 a10 xs11).bind g) g a6 a7 a8 xs9 a10 xs11 := by
  simp only [f200.l1.step, bind_ite, bind_sum, Option.bind_assoc, Option.bind_some, Option.bind_none]
theorem f200.l1.good (k : Nat) (a6 a7 a8 xs9 a10 xs11) : GoodL (f200.X k) (nthC 0 (loopsOf (bodyOf Try.f200))) (f200.l1.st a6 a7 a8 xs9 a10 xs11) { α := _, o := f200.l1 k k a6 a7 a8 xs9 a10 xs11, w := f200.l1.w } :=
  loop_good (ι := Int × Int × Int × (List Int) × Int × (List S174)) (α := ((List S174))) (fun i => f200.l1.st i.1 i.2.1 i.2.2.1 i.2.2.2.1 i.2.2.2.2.1 i.2.2.2.2.2) (fun j i => f200.l1 k j i.1 i.2.1 i.2.2.1 i.2.2.2.1 i.2.2.2.2.1 i.2.2.2.2.2) f200.l1.w (fun rec_ ret i => f200.l1.step k (fun a6 a7 a8 xs9 a10 xs11 => rec_ (a6, a7, a8, xs9, a10, xs11)) ret i.1 i.2.1 i.2.2.1 i.2.2.2.1 i.2.2.2.2.1 i.2.2.2.2.2)
    (fun _ => rfl) (fun _ _ => rfl) (fun rec_ g i => f200.l1.nat k _ g i.1 i.2.1 i.2.2.1 i.2.2.2.1 i.2.2.2.2.1 i.2.2.2.2.2) (fun {R} i0 i rec_ K => by kernel_rfl) k (a6, a7, a8, xs9, a10, xs11)
theorem f200.l1.all (k : Nat) (S : St env) : GoodL (f200.X k) (nthC 0 (loopsOf (bodyOf Try.f200))) S (f200.l1.hd k S.ts S.m S.n) := by
  obtain ⟨ts_, m_, n_⟩ := S
  show GoodL _ _ _ (f200.l1.hd k ts_ m_ n_)
  unfold f200.l1.hd
  have hg_ := f200.l1.good k
  exact rdL
theorem f200.nat {R : Type} (k : Nat) (g : _ → Option R) (xs1 a2 a3 a4 xs5) : f200.step k g xs1 a2 a3 a4 xs5 = (f200 k xs1 a2 a3 a4 xs5).bind g := by
  simp only [f200, f200.step, bind_ite, bind_sum, Option.bind_assoc, Option.bind_some, Option.bind_none]
theorem f200.ev (k : Nat) (xs1 : List S174) (a2 : Int) (a3 : Int) (a4 : Int) (xs5 : List Int) : evF (f200.X k) (bodyOf Try.f200) Try.f200.ntmps Try.f200.results.toList [.v (.c (.wr 174 xs1)), .v (.c (.s (.int .i64 a2))), .v (.c (.s (.int .i64 a3))), .v (.c (.s (.int .i64 a4))), .v (.c (.sl 3 xs5))] = f200.step k (fun x => f200.w x some) xs1 a2 a3 a4 xs5 := by kernel_rfl
theorem f200.hok (k : Nat) : HOK (f200.X k) (bodyOf Try.f200) where
  l := allP_mem (by exact ⟨ls_of (h0 := fun S => f200.l1.hd k S.ts S.m S.n) (by kernel_rfl) (f200.l1.all k), trivial⟩)
  j := allP_mem (by exact trivial)
  q := allP_mem (by exact trivial)
theorem f200.sound0 (k : Nat) : SoundC env Try.prog 200 (f200.hd k) := by
  intro ps_
  show GoodC _ _ _ ps_ (f200.hd k ps_)
  unfold f200.hd
  have hF_ := fun_sound envOK (cs_sound _ (by exact trivial)) (f200.hok k) Try.func200 rfl
  have hev_ := f200.ev k
  have hnat_ := fun g_ => f200.nat k (R := Res env) g_
  exact rdC
theorem f200.sound (k : Nat) : SoundC env Try.prog 200 (f200.e k).F := soundC_coer (f200.sound0 k) [[.wr 174], [.no], [.no], [.no], [.rd 3]]
theorem f200.fnok : FnOK Try.prog 200 := fn_ok Try.func200 (by kernel_rfl) rfl
def f202.l1.step {R : Type} (k : Nat) (rec_ : Int → Int → (List S174) → Option R) (ret : ((List S174)) → Option R) (a3 : Int) (a4 : Int) (xs5 : List S174) : Option R :=
  if (decide (a4 < (((List.length xs5) : Nat) : Int))) = true then
 if (0 : Int) ≤ a4 then
 if a4 < ((List.length xs5 : Nat) : Int) then
 if (decide (a4 = a3)) = false then
 if (decide ((List.getD xs5 (Int.toNat a4) (⟨(0 : Int), (0 : Int), (0 : Int)⟩ : S174)).f1 < (0 : Int))) = true then
 rec_ a3 (IntKind.i64.wrap (a4 + (1 : Int))) xs5
 else
 if (decide ((List.getD xs5 (Int.toNat a4) (⟨(0 : Int), (0 : Int), (0 : Int)⟩ : S174)).f2 ≥ (4 : Int))) = true then
 if (decide ((List.getD xs5 (Int.toNat a4) (⟨(0 : Int), (0 : Int), (0 : Int)⟩ : S174)).f0 < (16 : Int))) = true then
 if (0 : Int) ≤ a4 then
 if a4 < ((List.length xs5 : Nat) : Int) then
 if (0 : Int) ≤ a4 then
 if a4 < ((List.length (List.set xs5 (Int.toNat a4) (⟨(16 : Int), (List.getD xs5 (Int.toNat a4) (⟨(0 : Int), (0 : Int), (0 : Int)⟩ : S174)).f1, (4 : Int)⟩ : S174)) : Nat) : Int) then
 if (decide ((List.getD (List.set xs5 (Int.toNat a4) (⟨(16 : Int), (List.getD xs5 (Int.toNat a4) (⟨(0 : Int), (0 : Int), (0 : Int)⟩ : S174)).f1, (4 : Int)⟩ : S174)) (Int.toNat a4) (⟨(0 : Int), (0 : Int), (0 : Int)⟩ : S174)).f2 > (6 : Int))) = true then
 if (0 : Int) ≤ a4 then
 if a4 < ((List.length (List.set xs5 (Int.toNat a4) (⟨(16 : Int), (List.getD xs5 (Int.toNat a4) (⟨(0 : Int), (0 : Int), (0 : Int)⟩ : S174)).f1, (4 : Int)⟩ : S174)) : Nat) : Int) then
 rec_ a3 (IntKind.i64.wrap (a4 + (1 : Int))) (List.set (List.set xs5 (Int.toNat a4) (⟨(16 : Int), (List.getD xs5 (Int.toNat a4) (⟨(0 : Int), (0 : Int), (0 : Int)⟩ : S174)).f1, (4 : Int)⟩ : S174)) (Int.toNat a4) (⟨(16 : Int), (-1 : Int), (0 : Int)⟩ : S174))
 else none
 else none
 else
 rec_ a3 (IntKind.i64.wrap (a4 + (1 : Int))) (List.set xs5 (Int.toNat a4) (⟨(16 : Int), (List.getD xs5 (Int.toNat a4) (⟨(0 : Int), (0 : Int), (0 : Int)⟩ : S174)).f1, (4 : Int)⟩ : S174))
 else none
 else none
 else none
 else none
 else
 if (0 : Int) ≤ a4 then
 if a4 < ((List.length xs5 : Nat) : Int) then
 if (decide ((List.getD xs5 (Int.toNat a4) (⟨(0 : Int), (0 : Int), (0 : Int)⟩ : S174)).f2 > (6 : Int))) = true then
 if (0 : Int) ≤ a4 then
 if a4 < ((List.length xs5 : Nat) : Int) then
 rec_ a3 (IntKind.i64.wrap (a4 + (1 : Int))) (List.set xs5 (Int.toNat a4) (⟨(16 : Int), (-1 : Int), (0 : Int)⟩ : S174))
 else none
 else none
 else
 rec_ a3 (IntKind.i64.wrap (a4 + (1 : Int))) xs5
 else none
 else none
 else
 if (0 : Int) ≤ a4 then
 if a4 < ((List.length xs5 : Nat) : Int) then
 if (decide ((List.getD xs5 (Int.toNat a4) (⟨(0 : Int), (0 : Int), (0 : Int)⟩ : S174)).f2 > (6 : Int))) = true then
 if (0 : Int) ≤ a4 then
 if a4 < ((List.length xs5 : Nat) : Int) then
 rec_ a3 (IntKind.i64.wrap (a4 + (1 : Int))) (List.set xs5 (Int.toNat a4) (⟨(16 : Int), (-1 : Int), (0 : Int)⟩ : S174))
 else none
 else none
 else
 rec_ a3 (IntKind.i64.wrap (a4 + (1 : Int))) xs5
 else none
 else none
 else
 rec_ a3 (IntKind.i64.wrap (a4 + (1 : Int))) xs5
 else none
 else none
 else
 ret xs5
def f202.l1 (k : Nat) : Nat → Int → Int → (List S174) → Option ((List S174))
  | 0, _, _, _ => none
  | j + 1, a3, a4, xs5 => f202.l1.step k (fun a3 a4 xs5 => f202.l1 k j a3 a4 xs5) some a3 a4 xs5
def f202.l1.w {R : Type} : ((List S174)) → (Exit → St env → Option R) → Option R := fun t7 K => K (.exit 0) ⟨fullT [0] 0 48 [.v (.c (.row 2))], [(2, .row true 174 t7)], 898⟩
def f202.l1.st (a3 : Int) (a4 : Int) (xs5 : List S174) : St env := ⟨fullT [0, 1, 4] 0 48 [.v (.c (.row 2)), .v (.c (.s (.int .i64 a3))), .v (.c (.s (.int .i64 a4)))], [(2, .row true 174 xs5)], 146⟩
def f202.l1.hd (k : Nat) (ts_ : List (AV env)) (mm_ : Mem env) (n_ : Nat) : LCl env :=
  gTs Ln [0, 1, 4] 48 ts_ fun l_ => tR Ln 2 l_ fun l_ => tI Ln l_ fun a3 l_ => tI Ln l_ fun a4 l_ => gE Ln l_ <| mRow Ln 2 true 174 mm_ fun xs5 m_ => gE Ln m_ <| gN Ln 146 n_ { α := (List S174), o := f202.l1 k k a3 a4 xs5, w := f202.l1.w }
def f202.step {R : Type} (k : Nat) (ret : ((List S174)) → Option R) (xs1 : List S174) (a2 : Int) : Option R :=
  (f202.l1 k k a2 (0 : Int) xs1).bind fun t6 => ret t6
def f202 (k : Nat) (xs1 : List S174) (a2 : Int) : Option ((List S174)) := f202.step k some xs1 a2
def f202.w {R : Type} : ((List S174)) → (Res env → Option R) → Option R := fun t8 K => K ⟨.tup [], [[.sl 174 t8], []]⟩
theorem f202.wn (x : ((List S174))) : ∃ res, ∀ {R : Type} (K : Res env → Option R), f202.w x K = K res := by
  exact ⟨_, fun _ => rfl⟩
def f202.hd (k : Nat) (ps_ : List (P2 env)) : Cl env :=
  gC Cl.no ps_ fun p_ ps_ => qC Cl.no p_ fun c_ => qWr Cl.no 174 c_ fun xs1 => pI Cl.no ps_ fun a2 ps_ => gE Cl.no ps_ <| { α := (List S174), o := f202 k xs1 a2, w := f202.w, nat := fun x _ => f202.wn x }
def f202.e (k : Nat) : Entry env := ⟨fun ps => f202.hd k (coer [[.wr 174], [.no]] ps), [(0, 0)], []⟩
def f202.X (k : Nat) : Ctx env := { C := lookE [], L := lookE [(1, fun S => f202.l1.hd k S.ts S.m S.n)], J := lookE [], keep := lookD [(1, [0, 1, 4])], keepX := lookD [(1, [0])], span := lookN [(1, 752)], eff := fun n => memN n [], prep := lookP [], np := 130 }
theorem f202.l1.nat {R : Type} (k : Nat) (rec_) (g : _ → Option R) (a3 a4 xs5) : (f202.l1.step k rec_ some a3 a4 xs5).bind g = f202.l1.step k (fun a3 a4 xs5 => (rec_ a3 a4 xs5).bind g) g a3 a4 xs5 := by
  simp only [f202.l1.step, bind_ite, bind_sum, Option.bind_assoc, Option.bind_some, Option.bind_none]
theorem f202.l1.good (k : Nat) (a3 a4 xs5) : GoodL (f202.X k) (nthC 0 (loopsOf (bodyOf Try.f202))) (f202.l1.st a3 a4 xs5) { α := _, o := f202.l1 k k a3 a4 xs5, w := f202.l1.w } :=
  loop_good (ι := Int × Int × (List S174)) (α := ((List S174))) (fun i => f202.l1.st i.1 i.2.1 i.2.2) (fun j i => f202.l1 k j i.1 i.2.1 i.2.2) f202.l1.w (fun rec_ ret i => f202.l1.step k (fun a3 a4 xs5 => rec_ (a3, a4, xs5)) ret i.1 i.2.1 i.2.2)
    (fun _ => rfl) (fun _ _ => rfl) (fun rec_ g i => f202.l1.nat k _ g i.1 i.2.1 i.2.2) (fun {R} i0 i rec_ K => by kernel_rfl) k (a3, a4, xs5)
theorem f202.l1.all (k : Nat) (S : St env) : GoodL (f202.X k) (nthC 0 (loopsOf (bodyOf Try.f202))) S (f202.l1.hd k S.ts S.m S.n) := by
  obtain ⟨ts_, m_, n_⟩ := S
  show GoodL _ _ _ (f202.l1.hd k ts_ m_ n_)
  unfold f202.l1.hd
  have hg_ := f202.l1.good k
  exact rdL
theorem f202.nat {R : Type} (k : Nat) (g : _ → Option R) (xs1 a2) : f202.step k g xs1 a2 = (f202 k xs1 a2).bind g := by
  simp only [f202, f202.step, bind_ite, bind_sum, Option.bind_assoc, Option.bind_some, Option.bind_none]
theorem f202.ev (k : Nat) (xs1 : List S174) (a2 : Int) : evF (f202.X k) (bodyOf Try.f202) Try.f202.ntmps Try.f202.results.toList [.v (.c (.wr 174 xs1)), .v (.c (.s (.int .i64 a2)))] = f202.step k (fun x => f202.w x some) xs1 a2 := by kernel_rfl
theorem f202.hok (k : Nat) : HOK (f202.X k) (bodyOf Try.f202) where
  l := allP_mem (by exact ⟨ls_of (h0 := fun S => f202.l1.hd k S.ts S.m S.n) (by kernel_rfl) (f202.l1.all k), trivial⟩)
  j := allP_mem (by exact trivial)
  q := allP_mem (by exact trivial)
theorem f202.sound0 (k : Nat) : SoundC env Try.prog 202 (f202.hd k) := by
  intro ps_
  show GoodC _ _ _ ps_ (f202.hd k ps_)
  unfold f202.hd
  have hF_ := fun_sound envOK (cs_sound _ (by exact trivial)) (f202.hok k) Try.func202 rfl
  have hev_ := f202.ev k
  have hnat_ := fun g_ => f202.nat k (R := Res env) g_
  exact rdC
theorem f202.sound (k : Nat) : SoundC env Try.prog 202 (f202.e k).F := soundC_coer (f202.sound0 k) [[.wr 174], [.no]]
theorem f202.fnok : FnOK Try.prog 202 := fn_ok Try.func202 (by kernel_rfl) rfl
def f195.l6.step {R : Type} (k : Nat) (rec_ : (List Bool) → Int → Int → (List S104) → (List (List S174)) → Int → Int → (List S104) → (List (List S174)) → Int → Option R) (ret : ((List Bool) × Int × (List S104) × (List (List S174)) × Int × Int × (List S104) × (List (List S174)) × Int) → Option R) (xs15 : List Bool) (a16 : Int) (a17 : Int) (xs18 : List S104) (xs19 : List (List S174)) (a20 : Int) (a21 : Int) (xs22 : List S104) (xs23 : List (List S174)) (a24 : Int) : Option R :=
  if (decide (a17 < a24)) = true then
 if (0 : Int) ≤ a16 then
 if a16 < ((List.length xs23 : Nat) : Int) then
 if (0 : Int) ≤ a17 then
 if a17 < ((List.length (List.getD xs23 (Int.toNat a16) []) : Nat) : Int) then
 if (decide (a17 ≠ a16)) = true then
 if (Int.toNat a17) < List.length (List.getD xs23 (Int.toNat a16) []) then
 if (decide ((List.getD (List.getD xs23 (Int.toNat a16) []) (Int.toNat a17) (⟨(0 : Int), (0 : Int), (0 : Int)⟩ : S174)).f1 ≥ (0 : Int))) = true then
 if (Int.toNat a17) < List.length (List.getD xs23 (Int.toNat a16) []) then
 if (Int.toNat a17) < List.length (List.getD xs23 (Int.toNat a16) []) then
 rec_ xs15 a16 (IntKind.i64.wrap (a17 + (1 : Int))) xs18 xs19 a20 a21 xs22 (List.set xs23 (Int.toNat a16) (set174 (List.getD xs23 (Int.toNat a16) []) (Int.toNat a17) 2 [.s (.int .i64 (IntKind.i64.wrap ((List.getD (List.getD xs23 (Int.toNat a16) []) (Int.toNat a17) (⟨(0 : Int), (0 : Int), (0 : Int)⟩ : S174)).f2 + (1 : Int))))])) a24
 else none
 else none
 else
 rec_ xs15 a16 (IntKind.i64.wrap (a17 + (1 : Int))) xs18 xs19 a20 a21 xs22 xs23 a24
 else none
 else
 rec_ xs15 a16 (IntKind.i64.wrap (a17 + (1 : Int))) xs18 xs19 a20 a21 xs22 xs23 a24
 else none
 else none
 else none
 else none
 else
 ret (xs15, a16, xs18, xs19, a20, a21, xs22, xs23, a24)
def f195.l6 (k : Nat) : Nat → (List Bool) → Int → Int → (List S104) → (List (List S174)) → Int → Int → (List S104) → (List (List S174)) → Int → Option ((List Bool) × Int × (List S104) × (List (List S174)) × Int × Int × (List S104) × (List (List S174)) × Int)
  | 0, _, _, _, _, _, _, _, _, _, _ => none
  | j + 1, xs15, a16, a17, xs18, xs19, a20, a21, xs22, xs23, a24 => f195.l6.step k (fun xs15 a16 a17 xs18 xs19 a20 a21 xs22 xs23 a24 => f195.l6 k j xs15 a16 a17 xs18 xs19 a20 a21 xs22 xs23 a24) some xs15 a16 a17 xs18 xs19 a20 a21 xs22 xs23 a24
def f195.l6.w {R : Type} : ((List Bool) × Int × (List S104) × (List (List S174)) × Int × Int × (List S104) × (List (List S174)) × Int) → (Exit → St env → Option R) → Option R := fun t45 K => K (.exit 2) ⟨fullT [1, 2, 4, 5, 6] 0 120 [.v (.c (.imm 4 t45.1)), .v (.c (.bp 2 0)), .v (.c (.bp 18 0)), .v (.c (.bp 66 0)), .v (.c (.s (.int .i64 t45.2.1)))], [(2, .box [.imm 104 t45.2.2.1, .imm 171 t45.2.2.2.1, .s (.int .i64 t45.2.2.2.2.1)]), (18, .box [.s (.slice none 0 0), .s (.slice none 0 0), .s (.int .i64 t45.2.2.2.2.2.1)]), (50, .row true 104 t45.2.2.2.2.2.2.1), (51, .row true 171 t45.2.2.2.2.2.2.2.1), (66, .box [.row 50, .row 51, .s (.int .i64 t45.2.2.2.2.2.2.2.2)])], 722⟩
def f195.l6.st (xs15 : List Bool) (a16 : Int) (a17 : Int) (xs18 : List S104) (xs19 : List (List S174)) (a20 : Int) (a21 : Int) (xs22 : List S104) (xs23 : List (List S174)) (a24 : Int) : St env := ⟨fullT [1, 2, 4, 5, 6, 7] 0 120 [.v (.c (.imm 4 xs15)), .v (.c (.bp 2 0)), .v (.c (.bp 18 0)), .v (.c (.bp 66 0)), .v (.c (.s (.int .i64 a16))), .v (.c (.s (.int .i64 a17)))], [(2, .box [.imm 104 xs18, .imm 171 xs19, .s (.int .i64 a20)]), (18, .box [.s (.slice none 0 0), .s (.slice none 0 0), .s (.int .i64 a21)]), (50, .row true 104 xs22), (51, .row true 171 xs23), (66, .box [.row 50, .row 51, .s (.int .i64 a24)])], 194⟩
def f195.l12.step {R : Type} (k : Nat) (rec_ : (List Bool) → Int → Int → (List S104) → (List (List S174)) → Int → Int → (List S104) → (List (List S174)) → Int → Option R) (ret : ((List Bool) × Int × (List S104) × (List (List S174)) × Int × Int × (List S104) × (List (List S174)) × Int) → Option R) (xs26 : List Bool) (a27 : Int) (a28 : Int) (xs29 : List S104) (xs30 : List (List S174)) (a31 : Int) (a32 : Int) (xs33 : List S104) (xs34 : List (List S174)) (a35 : Int) : Option R :=
  if (decide (a28 < a35)) = true then
 (f137 k xs33 a27 a28).bind fun t36 => if (decide (t36 < (0 : Int))) = false then
 if (0 : Int) ≤ t36 then
 if t36 < ((List.length xs33 : Nat) : Int) then
 if (!(List.getD xs33 (Int.toNat t36) (⟨(0 : Int), (0 : Int), (0 : Int), false⟩ : S104)).f3) = true then
 rec_ xs26 a27 (IntKind.i64.wrap (a28 + (1 : Int))) xs29 xs30 a31 a32 xs33 xs34 a35
 else
 if (0 : Int) ≤ t36 then
 if t36 < ((List.length xs33 : Nat) : Int) then
 (f162 k (decide ((List.getD xs33 (Int.toNat t36) (⟨(0 : Int), (0 : Int), (0 : Int), false⟩ : S104)).f0 = a27)) (1 : Int)).bind fun t37 => if (decide ((IntKind.i64.wrap ((IntKind.i64.wrap ((2 : Int) * t36)) + t37)) < (((List.length xs26) : Nat) : Int))) = true then
 if (0 : Int) ≤ (IntKind.i64.wrap ((IntKind.i64.wrap ((2 : Int) * t36)) + t37)) then
 if (IntKind.i64.wrap ((IntKind.i64.wrap ((2 : Int) * t36)) + t37)) < ((List.length xs26 : Nat) : Int) then
 if (List.getD xs26 (Int.toNat (IntKind.i64.wrap ((IntKind.i64.wrap ((2 : Int) * t36)) + t37))) false) = true then
 rec_ xs26 a27 (IntKind.i64.wrap (a28 + (1 : Int))) xs29 xs30 a31 a32 xs33 xs34 a35
 else
 if (0 : Int) ≤ a27 then
 if a27 < ((List.length xs34 : Nat) : Int) then
 if (0 : Int) ≤ t36 then
 if t36 < ((List.length xs33 : Nat) : Int) then
 (f201 k xs29 xs30 a31 a28 a27).bind fun t38 => (f200 k (List.getD xs34 (Int.toNat a27) []) a27 a28 (List.getD xs33 (Int.toNat t36) (⟨(0 : Int), (0 : Int), (0 : Int), false⟩ : S104)).f2 t38).bind fun t39 => rec_ xs26 a27 (IntKind.i64.wrap (a28 + (1 : Int))) xs29 xs30 a31 a32 xs33 (List.set xs34 (Int.toNat a27) t39) a35
 else none
 else none
 else none
 else none
 else none
 else none
 else
 if (0 : Int) ≤ a27 then
 if a27 < ((List.length xs34 : Nat) : Int) then
 if (0 : Int) ≤ t36 then
 if t36 < ((List.length xs33 : Nat) : Int) then
 (f201 k xs29 xs30 a31 a28 a27).bind fun t40 => (f200 k (List.getD xs34 (Int.toNat a27) []) a27 a28 (List.getD xs33 (Int.toNat t36) (⟨(0 : Int), (0 : Int), (0 : Int), false⟩ : S104)).f2 t40).bind fun t41 => rec_ xs26 a27 (IntKind.i64.wrap (a28 + (1 : Int))) xs29 xs30 a31 a32 xs33 (List.set xs34 (Int.toNat a27) t41) a35
 else none
 else none
 else none
 else none
 else none
 else none
 else none
 else none
 else
 rec_ xs26 a27 (IntKind.i64.wrap (a28 + (1 : Int))) xs29 xs30 a31 a32 xs33 xs34 a35
 else
 ret (xs26, a27, xs29, xs30, a31, a32, xs33, xs34, a35)
def f195.l12 (k : Nat) : Nat → (List Bool) → Int → Int → (List S104) → (List (List S174)) → Int → Int → (List S104) → (List (List S174)) → Int → Option ((List Bool) × Int × (List S104) × (List (List S174)) × Int × Int × (List S104) × (List (List S174)) × Int)
  | 0, _, _, _, _, _, _, _, _, _, _ => none
  | j + 1, xs26, a27, a28, xs29, xs30, a31, a32, xs33, xs34, a35 => f195.l12.step k (fun xs26 a27 a28 xs29 xs30 a31 a32 xs33 xs34 a35 => f195.l12 k j xs26 a27 a28 xs29 xs30 a31 a32 xs33 xs34 a35) some xs26 a27 a28 xs29 xs30 a31 a32 xs33 xs34 a35
def f195.l12.w {R : Type} : ((List Bool) × Int × (List S104) × (List (List S174)) × Int × Int × (List S104) × (List (List S174)) × Int) → (Exit → St env → Option R) → Option R := fun t46 K => K (.exit 4) ⟨fullT [1, 2, 4, 5, 6] 0 120 [.v (.c (.imm 4 t46.1)), .v (.c (.bp 2 0)), .v (.c (.bp 18 0)), .v (.c (.bp 66 0)), .v (.c (.s (.int .i64 t46.2.1)))], [(2, .box [.imm 104 t46.2.2.1, .imm 171 t46.2.2.2.1, .s (.int .i64 t46.2.2.2.2.1)]), (18, .box [.s (.slice none 0 0), .s (.slice none 0 0), .s (.int .i64 t46.2.2.2.2.2.1)]), (50, .row true 104 t46.2.2.2.2.2.2.1), (51, .row true 171 t46.2.2.2.2.2.2.2.1), (66, .box [.row 50, .row 51, .s (.int .i64 t46.2.2.2.2.2.2.2.2)])], 1778⟩
def f195.l12.st (xs26 : List Bool) (a27 : Int) (a28 : Int) (xs29 : List S104) (xs30 : List (List S174)) (a31 : Int) (a32 : Int) (xs33 : List S104) (xs34 : List (List S174)) (a35 : Int) : St env := ⟨fullT [1, 2, 4, 5, 6, 9] 0 120 [.v (.c (.imm 4 xs26)), .v (.c (.bp 2 0)), .v (.c (.bp 18 0)), .v (.c (.bp 66 0)), .v (.c (.s (.int .i64 a27))), .v (.c (.s (.int .i64 a28)))], [(2, .box [.imm 104 xs29, .imm 171 xs30, .s (.int .i64 a31)]), (18, .box [.s (.slice none 0 0), .s (.slice none 0 0), .s (.int .i64 a32)]), (50, .row true 104 xs33), (51, .row true 171 xs34), (66, .box [.row 50, .row 51, .s (.int .i64 a35)])], 738⟩
def f195.l3.step {R : Type} (k : Nat) (rec_ : (List Bool) → Int → (List S104) → (List (List S174)) → Int → Int → (List S104) → (List (List S174)) → Int → Option R) (ret : (Int × (List S104) × (List (List S174)) × Int) → Option R) (xs6 : List Bool) (a7 : Int) (xs8 : List S104) (xs9 : List (List S174)) (a10 : Int) (a11 : Int) (xs12 : List S104) (xs13 : List (List S174)) (a14 : Int) : Option R :=
  if (decide (a7 < a14)) = true then
 (f195.l6 k k xs6 a7 (0 : Int) xs8 xs9 a10 a11 xs12 xs13 a14).bind fun t25 => (f195.l12 k k t25.1 t25.2.1 (0 : Int) t25.2.2.1 t25.2.2.2.1 t25.2.2.2.2.1 t25.2.2.2.2.2.1 t25.2.2.2.2.2.2.1 t25.2.2.2.2.2.2.2.1 t25.2.2.2.2.2.2.2.2).bind fun t42 => (let t42_0 := t42.2.2.2.2.2.2.2.1; if (0 : Int) ≤ t42.2.1 then
 if t42.2.1 < ((List.length t42_0 : Nat) : Int) then
 (f202 k (List.getD t42_0 (Int.toNat t42.2.1) []) t42.2.1).bind fun t43 => rec_ t42.1 (IntKind.i64.wrap (t42.2.1 + (1 : Int))) t42.2.2.1 t42.2.2.2.1 t42.2.2.2.2.1 t42.2.2.2.2.2.1 t42.2.2.2.2.2.2.1 (List.set t42_0 (Int.toNat t42.2.1) t43) t42.2.2.2.2.2.2.2.2
 else none
 else none)
 else
 ret (a11, xs12, xs13, a14)
def f195.l3 (k : Nat) : Nat → (List Bool) → Int → (List S104) → (List (List S174)) → Int → Int → (List S104) → (List (List S174)) → Int → Option (Int × (List S104) × (List (List S174)) × Int)
  | 0, _, _, _, _, _, _, _, _, _ => none
  | j + 1, xs6, a7, xs8, xs9, a10, a11, xs12, xs13, a14 => f195.l3.step k (fun xs6 a7 xs8 xs9 a10 a11 xs12 xs13 a14 => f195.l3 k j xs6 a7 xs8 xs9 a10 a11 xs12 xs13 a14) some xs6 a7 xs8 xs9 a10 a11 xs12 xs13 a14
def f195.l3.w {R : Type} : (Int × (List S104) × (List (List S174)) × Int) → (Exit → St env → Option R) → Option R := fun t47 K => K (.exit 0) ⟨fullT [4, 5] 0 120 [.v (.c (.bp 18 0)), .v (.c (.bp 66 0))], [(18, .box [.s (.slice none 0 0), .s (.slice none 0 0), .s (.int .i64 t47.1)]), (50, .row true 104 t47.2.1), (51, .row true 171 t47.2.2.1), (66, .box [.row 50, .row 51, .s (.int .i64 t47.2.2.2)])], 1938⟩
def f195.l3.st (xs6 : List Bool) (a7 : Int) (xs8 : List S104) (xs9 : List (List S174)) (a10 : Int) (a11 : Int) (xs12 : List S104) (xs13 : List (List S174)) (a14 : Int) : St env := ⟨fullT [1, 2, 4, 5, 6] 0 120 [.v (.c (.imm 4 xs6)), .v (.c (.bp 2 0)), .v (.c (.bp 18 0)), .v (.c (.bp 66 0)), .v (.c (.s (.int .i64 a7)))], [(2, .box [.imm 104 xs8, .imm 171 xs9, .s (.int .i64 a10)]), (18, .box [.s (.slice none 0 0), .s (.slice none 0 0), .s (.int .i64 a11)]), (50, .row true 104 xs12), (51, .row true 171 xs13), (66, .box [.row 50, .row 51, .s (.int .i64 a14)])], 114⟩
def f195.l6.hd (k : Nat) (ts_ : List (AV env)) (mm_ : Mem env) (n_ : Nat) : LCl env :=
  gTs Ln [1, 2, 4, 5, 6, 7] 120 ts_ fun l_ => tM Ln 4 l_ fun xs15 l_ => tP Ln 2 l_ fun l_ => tP Ln 18 l_ fun l_ => tP Ln 66 l_ fun l_ => tI Ln l_ fun a16 l_ => tI Ln l_ fun a17 l_ => gE Ln l_ <| mBox Ln 2 mm_ fun c_ m_ => cM Ln 104 c_ fun xs18 c_ => cM Ln 171 c_ fun xs19 c_ => cI Ln c_ fun a20 c_ => gE Ln c_ <| mBox Ln 18 m_ fun c_ m_ => cN Ln c_ fun c_ => cN Ln c_ fun c_ => cI Ln c_ fun a21 c_ => gE Ln c_ <| mRow Ln 50 true 104 m_ fun xs22 m_ => mRow Ln 51 true 171 m_ fun xs23 m_ => mBox Ln 66 m_ fun c_ m_ => cR Ln 50 c_ fun c_ => cR Ln 51 c_ fun c_ => cI Ln c_ fun a24 c_ => gE Ln c_ <| gE Ln m_ <| gN Ln 194 n_ { α := (List Bool) × Int × (List S104) × (List (List S174)) × Int × Int × (List S104) × (List (List S174)) × Int, o := f195.l6 k k xs15 a16 a17 xs18 xs19 a20 a21 xs22 xs23 a24, w := f195.l6.w }
def f195.l12.hd (k : Nat) (ts_ : List (AV env)) (mm_ : Mem env) (n_ : Nat) : LCl env :=
  gTs Ln [1, 2, 4, 5, 6, 9] 120 ts_ fun l_ => tM Ln 4 l_ fun xs26 l_ => tP Ln 2 l_ fun l_ => tP Ln 18 l_ fun l_ => tP Ln 66 l_ fun l_ => tI Ln l_ fun a27 l_ => tI Ln l_ fun a28 l_ => gE Ln l_ <| mBox Ln 2 mm_ fun c_ m_ => cM Ln 104 c_ fun xs29 c_ => cM Ln 171 c_ fun xs30 c_ => cI Ln c_ fun a31 c_ => gE Ln c_ <| mBox Ln 18 m_ fun c_ m_ => cN Ln c_ fun c_ => cN Ln c_ fun c_ => cI Ln c_ fun a32 c_ => gE Ln c_ <| mRow Ln 50 true 104 m_ fun xs33 m_ => mRow Ln 51 true 171 m_ fun xs34 m_ => mBox Ln 66 m_ fun c_ m_ => cR Ln 50 c_ fun c_ => cR Ln 51 c_ fun c_ => cI Ln c_ fun a35 c_ => gE Ln c_ <| gE Ln m_ <| gN Ln 738 n_ { α := (List Bool) × Int × (List S104) × (List (List S174)) × Int × Int × (List S104) × (List (List S174)) × Int, o := f195.l12 k k xs26 a27 a28 xs29 xs30 a31 a32 xs33 xs34 a35, w := f195.l12.w }
def f195.l3.hd (k : Nat) (ts_ : List (AV env)) (mm_ : Mem env) (n_ : Nat) : LCl env :=
  gTs Ln [1, 2, 4, 5, 6] 120 ts_ fun l_ => tM Ln 4 l_ fun xs6 l_ => tP Ln 2 l_ fun l_ => tP Ln 18 l_ fun l_ => tP Ln 66 l_ fun l_ => tI Ln l_ fun a7 l_ => gE Ln l_ <| mBox Ln 2 mm_ fun c_ m_ => cM Ln 104 c_ fun xs8 c_ => cM Ln 171 c_ fun xs9 c_ => cI Ln c_ fun a10 c_ => gE Ln c_ <| mBox Ln 18 m_ fun c_ m_ => cN Ln c_ fun c_ => cN Ln c_ fun c_ => cI Ln c_ fun a11 c_ => gE Ln c_ <| mRow Ln 50 true 104 m_ fun xs12 m_ => mRow Ln 51 true 171 m_ fun xs13 m_ => mBox Ln 66 m_ fun c_ m_ => cR Ln 50 c_ fun c_ => cR Ln 51 c_ fun c_ => cI Ln c_ fun a14 c_ => gE Ln c_ <| gE Ln m_ <| gN Ln 114 n_ { α := Int × (List S104) × (List (List S174)) × Int, o := f195.l3 k k xs6 a7 xs8 xs9 a10 a11 xs12 xs13 a14, w := f195.l3.w }
def f195.step {R : Type} (k : Nat) (ret : ((List S104) × (List (List S174)) × Int) → Option R) (xs1 : List S104) (xs2 : List (List S174)) (a3 : Int) (xs4 : List Bool) : Option R :=
  (f181 k xs1 xs2 a3).bind fun t5 => (f195.l3 k k xs4 (0 : Int) xs1 xs2 a3 (0 : Int) t5.1 t5.2.1 t5.2.2).bind fun t44 => ret (t44.2.1, t44.2.2.1, t44.2.2.2)
def f195 (k : Nat) (xs1 : List S104) (xs2 : List (List S174)) (a3 : Int) (xs4 : List Bool) : Option ((List S104) × (List (List S174)) × Int) := f195.step k some xs1 xs2 a3 xs4
def f195.w {R : Type} : ((List S104) × (List (List S174)) × Int) → (Res env → Option R) → Option R := fun t48 K => K ⟨.v (.g [.own true 104 t48.1, .own true 171 t48.2.1, .s (.int .i64 t48.2.2)]), [[], []]⟩
theorem f195.wn (x : ((List S104) × (List (List S174)) × Int)) : ∃ res, ∀ {R : Type} (K : Res env → Option R), f195.w x K = K res := by
  exact ⟨_, fun _ => rfl⟩
def f195.hd (k : Nat) (ps_ : List (P2 env)) : Cl env :=
  gC Cl.no ps_ fun p_ ps_ => qG Cl.no p_ fun cs_ => dM Cl.no 104 cs_ fun xs1 cs_ => dM Cl.no 171 cs_ fun xs2 cs_ => dI Cl.no cs_ fun a3 cs_ => gE Cl.no cs_ <| pM Cl.no 4 ps_ fun xs4 ps_ => gE Cl.no ps_ <| { α := (List S104) × (List (List S174)) × Int, o := f195 k xs1 xs2 a3 xs4, w := f195.w, nat := fun x _ => f195.wn x }
def f195.e (k : Nat) : Entry env := ⟨fun ps => f195.hd k (coer [[.rd 104, .rd 171, .no], [.rd 4]] ps), [], []⟩
def f195.X (k : Nat) : Ctx env := { C := lookE [(137, f137.e k), (162, f162.e k), (181, f181.e k), (200, f200.e k), (201, f201.e k), (202, f202.e k)], L := lookE [(6, fun S => f195.l6.hd k S.ts S.m S.n), (12, fun S => f195.l12.hd k S.ts S.m S.n), (3, fun S => f195.l3.hd k S.ts S.m S.n)], J := lookE [], keep := lookD [(6, [1, 2, 4, 5, 6, 7]), (12, [1, 2, 4, 5, 6, 9]), (3, [1, 2, 4, 5, 6])], keepX := lookD [(6, [1, 2, 4, 5, 6]), (12, [1, 2, 4, 5, 6]), (3, [4, 5])], span := lookN [(6, 528), (12, 1040), (3, 1824)], eff := fun n => memN n [18], prep := lookP [], np := 0, vb := lookN [(7, 1), (8, 2), (18, 2), (19, 1)], ve := lookN [(18, 1)] }
theorem f195.l6.nat {R : Type} (k : Nat) (rec_) (g : _ → Option R) (xs15 a16 a17 xs18 xs19 a20 a21 xs22 xs23 a24) : (f195.l6.step k rec_ some xs15 a16 a17 xs18 xs19 a20 a21 xs22 xs23 a24).bind g = f195.l6.step k (fun xs15 a16 a17 xs18 xs19 a20 a21 xs22 xs23 a24 => (rec_ xs15 a16 a17 xs18 xs19 a20 a21 xs22 xs23 a24).bind g) g xs15 a16 a17 xs18 xs19 a20 a21 xs22 xs23 a24 := by
  simp only [f195.l6.step, bind_ite, bind_sum, Option.bind_assoc, Option.bind_some, Option.bind_none]
theorem f195.l6.good (k : Nat) (xs15 a16 a17 xs18 xs19 a20 a21 xs22 xs23 a24) : GoodL (f195.X k) (nthC 1 (loopsOf (bodyOf Try.f195))) (f195.l6.st xs15 a16 a17 xs18 xs19 a20 a21 xs22 xs23 a24) { α := _, o := f195.l6 k k xs15 a16 a17 xs18 xs19 a20 a21 xs22 xs23 a24, w := f195.l6.w } :=
  loop_good (ι := (List Bool) × Int × Int × (List S104) × (List (List S174)) × Int × Int × (List S104) × (List (List S174)) × Int) (α := ((List Bool) × Int × (List S104) × (List (List S174)) × Int × Int × (List S104) × (List (List S174)) × Int)) (fun i => f195.l6.st i.1 i.2.1 i.2.2.1 i.2.2.2.1 i.2.2.2.2.1 i.2.2.2.2.2.1 i.2.2.2.2.2.2.1 i.2.2.2.2.2.2.2.1 i.2.2.2.2.2.2.2.2.1 i.2.2.2.2.2.2.2.2.2) (fun j i => f195.l6 k j i.1 i.2.1 i.2.2.1 i.2.2.2.1 i.2.2.2.2.1 i.2.2.2.2.2.1 i.2.2.2.2.2.2.1 i.2.2.2.2.2.2.2.1 i.2.2.2.2.2.2.2.2.1 i.2.2.2.2.2.2.2.2.2) f195.l6.w (fun rec_ ret i => f195.l6.step k (fun xs15 a16 a17 xs18 xs19 a20 a21 xs22 xs23 a24 => rec_ (xs15, a16, a17, xs18, xs19, a20, a21, xs22, xs23, a24)) ret i.1 i.2.1 i.2.2.1 i.2.2.2.1 i.2.2.2.2.1 i.2.2.2.2.2.1 i.2.2.2.2.2.2.1 i.2.2.2.2.2.2.2.1 i.2.2.2.2.2.2.2.2.1 i.2.2.2.2.2.2.2.2.2)
    (fun _ => rfl) (fun _ _ => rfl) (fun rec_ g i => f195.l6.nat k _ g i.1 i.2.1 i.2.2.1 i.2.2.2.1 i.2.2.2.2.1 i.2.2.2.2.2.1 i.2.2.2.2.2.2.1 i.2.2.2.2.2.2.2.1 i.2.2.2.2.2.2.2.2.1 i.2.2.2.2.2.2.2.2.2) (fun {R} i0 i rec_ K => by kernel_rfl) k (xs15, a16, a17, xs18, xs19, a20, a21, xs22, xs23, a24)
theorem f195.l6.all (k : Nat) (S : St env) : GoodL (f195.X k) (nthC 1 (loopsOf (bodyOf Try.f195))) S (f195.l6.hd k S.ts S.m S.n) := by
  obtain ⟨ts_, m_, n_⟩ := S
  show GoodL _ _ _ (f195.l6.hd k ts_ m_ n_)
  unfold f195.l6.hd
  have hg_ := f195.l6.good k
  exact rdL
theorem f195.l12.nat {R : Type} (k : Nat) (rec_) (g : _ → Option R) (xs26 a27 a28 xs29 xs30 a31 a32 xs33 xs34 a35) : (f195.l12.step k rec_ some xs26 a27 a28 xs29 xs30 a31 a32 xs33 xs34 a35).bind g = f195.l12.step k (fun xs26 a27 a28 xs29 xs30 a31 a32 xs33 xs34 a35 => (rec_ xs26 a27 a28 xs29 xs30 a31 a32 xs33 xs34 a35).bind g) g xs26 a27 a28 xs29 xs30 a31 a32 xs33 xs34 a35 := by
  simp only [f195.l12.step, bind_ite, bind_sum, Option.bind_assoc, Option.bind_some, Option.bind_none]
theorem f195.l12.good (k : Nat) (xs26 a27 a28 xs29 xs30 a31 a32 xs33 xs34 a35) : GoodL (f195.X k) (nthC 2 (loopsOf (bodyOf Try.f195))) (f195.l12.st xs26 a27 a28 xs29 xs30 a31 a32 xs33 xs34 a35) { α := _, o := f195.l12 k k xs26 a27 a28 xs29 xs30 a31 a32 xs33 xs34 a35, w := f195.l12.w } :=
  loop_good (ι := (List Bool) × Int × Int × (List S104) × (List (List S174)) × Int × Int × (List S104) × (List (List S174)) × Int) (α := ((List Bool) × Int × (List S104) × (List (List S174)) × Int × Int × (List S104) × (List (List S174)) × Int)) (fun i => f195.l12.st i.1 i.2.1 i.2.2.1 i.2.2.2.1 i.2.2.2.2.1 i.2.2.2.2.2.1 i.2.2.2.2.2.2.1 i.2.2.2.2.2.2.2.1 i.2.2.2.2.2.2.2.2.1 i.2.2.2.2.2.2.2.2.2) (fun j i => f195.l12 k j i.1 i.2.1 i.2.2.1 i.2.2.2.1 i.2.2.2.2.1 i.2.2.2.2.2.1 i.2.2.2.2.2.2.1 i.2.2.2.2.2.2.2.1 i.2.2.2.2.2.2.2.2.1 i.2.2.2.2.2.2.2.2.2) f195.l12.w (fun rec_ ret i => f195.l12.step k (fun xs26 a27 a28 xs29 xs30 a31 a32 xs33 xs34 a35 => rec_ (xs26, a27, a28, xs29, xs30, a31, a32, xs33, xs34, a35)) ret i.1 i.2.1 i.2.2.1 i.2.2.2.1 i.2.2.2.2.1 i.2.2.2.2.2.1 i.2.2.2.2.2.2.1 i.2.2.2.2.2.2.2.1 i.2.2.2.2.2.2.2.2.1 i.2.2.2.2.2.2.2.2.2)
    (fun _ => rfl) (fun _ _ => rfl) (fun rec_ g i => f195.l12.nat k _ g i.1 i.2.1 i.2.2.1 i.2.2.2.1 i.2.2.2.2.1 i.2.2.2.2.2.1 i.2.2.2.2.2.2.1 i.2.2.2.2.2.2.2.1 i.2.2.2.2.2.2.2.2.1 i.2.2.2.2.2.2.2.2.2) (fun {R} i0 i rec_ K => by kernel_rfl) k (xs26, a27, a28, xs29, xs30, a31, a32, xs33, xs34, a35)
theorem f195.l12.all (k : Nat) (S : St env) : GoodL (f195.X k) (nthC 2 (loopsOf (bodyOf Try.f195))) S (f195.l12.hd k S.ts S.m S.n) := by
  obtain ⟨ts_, m_, n_⟩ := S
  show GoodL _ _ _ (f195.l12.hd k ts_ m_ n_)
  unfold f195.l12.hd
  have hg_ := f195.l12.good k
  exact rdL
theorem f195.l3.nat {R : Type} (k : Nat) (rec_) (g : _ → Option R) (xs6 a7 xs8 xs9 a10 a11 xs12 xs13 a14) : (f195.l3.step k rec_ some xs6 a7 xs8 xs9 a10 a11 xs12 xs13 a14).bind g = f195.l3.step k (fun xs6 a7 xs8 xs9 a10 a11 xs12 xs13 a14 => (rec_ xs6 a7 xs8 xs9 a10 a11 xs12 xs13 a14).bind g) g xs6 a7 xs8 xs9 a10 a11 xs12 xs13 a14 := by
  simp only [f195.l3.step, bind_ite, bind_sum, Option.bind_assoc, Option.bind_some, Option.bind_none]
theorem f195.l3.good (k : Nat) (xs6 a7 xs8 xs9 a10 a11 xs12 xs13 a14) : GoodL (f195.X k) (nthC 0 (loopsOf (bodyOf Try.f195))) (f195.l3.st xs6 a7 xs8 xs9 a10 a11 xs12 xs13 a14) { α := _, o := f195.l3 k k xs6 a7 xs8 xs9 a10 a11 xs12 xs13 a14, w := f195.l3.w } :=
  loop_good (ι := (List Bool) × Int × (List S104) × (List (List S174)) × Int × Int × (List S104) × (List (List S174)) × Int) (α := (Int × (List S104) × (List (List S174)) × Int)) (fun i => f195.l3.st i.1 i.2.1 i.2.2.1 i.2.2.2.1 i.2.2.2.2.1 i.2.2.2.2.2.1 i.2.2.2.2.2.2.1 i.2.2.2.2.2.2.2.1 i.2.2.2.2.2.2.2.2) (fun j i => f195.l3 k j i.1 i.2.1 i.2.2.1 i.2.2.2.1 i.2.2.2.2.1 i.2.2.2.2.2.1 i.2.2.2.2.2.2.1 i.2.2.2.2.2.2.2.1 i.2.2.2.2.2.2.2.2) f195.l3.w (fun rec_ ret i => f195.l3.step k (fun xs6 a7 xs8 xs9 a10 a11 xs12 xs13 a14 => rec_ (xs6, a7, xs8, xs9, a10, a11, xs12, xs13, a14)) ret i.1 i.2.1 i.2.2.1 i.2.2.2.1 i.2.2.2.2.1 i.2.2.2.2.2.1 i.2.2.2.2.2.2.1 i.2.2.2.2.2.2.2.1 i.2.2.2.2.2.2.2.2)
    (fun _ => rfl) (fun _ _ => rfl) (fun rec_ g i => f195.l3.nat k _ g i.1 i.2.1 i.2.2.1 i.2.2.2.1 i.2.2.2.2.1 i.2.2.2.2.2.1 i.2.2.2.2.2.2.1 i.2.2.2.2.2.2.2.1 i.2.2.2.2.2.2.2.2) (fun {R} i0 i rec_ K => by kernel_rfl) k (xs6, a7, xs8, xs9, a10, a11, xs12, xs13, a14)
theorem f195.l3.all (k : Nat) (S : St env) : GoodL (f195.X k) (nthC 0 (loopsOf (bodyOf Try.f195))) S (f195.l3.hd k S.ts S.m S.n) := by
  obtain ⟨ts_, m_, n_⟩ := S
  show GoodL _ _ _ (f195.l3.hd k ts_ m_ n_)
  unfold f195.l3.hd
  have hg_ := f195.l3.good k
  exact rdL
theorem f195.nat {R : Type} (k : Nat) (g : _ → Option R) (xs1 xs2 a3 xs4) : f195.step k g xs1 xs2 a3 xs4 = (f195 k xs1 xs2 a3 xs4).bind g := by
  simp only [f195, f195.step, bind_ite, bind_sum, Option.bind_assoc, Option.bind_some, Option.bind_none]
theorem f195.ev (k : Nat) (xs1 : List S104) (xs2 : List (List S174)) (a3 : Int) (xs4 : List Bool) : evF (f195.X k) (bodyOf Try.f195) Try.f195.ntmps Try.f195.results.toList [.g [.sl 104 xs1, .sl 171 xs2, .s (.int .i64 a3)], .v (.c (.sl 4 xs4))] = f195.step k (fun x => f195.w x some) xs1 xs2 a3 xs4 := by kernel_rfl
theorem f195.hok (k : Nat) : HOK (f195.X k) (bodyOf Try.f195) where
  l := allP_mem (by exact ⟨ls_of (h0 := fun S => f195.l3.hd k S.ts S.m S.n) (by kernel_rfl) (f195.l3.all k), ls_of (h0 := fun S => f195.l6.hd k S.ts S.m S.n) (by kernel_rfl) (f195.l6.all k), ls_of (h0 := fun S => f195.l12.hd k S.ts S.m S.n) (by kernel_rfl) (f195.l12.all k), trivial⟩)
  j := allP_mem (by exact trivial)
  q := allP_mem (by exact trivial)
theorem f195.sound0 (k : Nat) : SoundC env Try.prog 195 (f195.hd k) := by
  intro ps_
  show GoodC _ _ _ ps_ (f195.hd k ps_)
  unfold f195.hd
  have hF_ := fun_sound envOK (cs_sound _ (by exact ⟨⟨f137.sound k, f137.fnok⟩, ⟨f162.sound k, f162.fnok⟩, ⟨f181.sound k, f181.fnok⟩, ⟨f200.sound k, f200.fnok⟩, ⟨f201.sound k, f201.fnok⟩, ⟨f202.sound k, f202.fnok⟩, trivial⟩)) (f195.hok k) Try.func195 rfl
  have hev_ := f195.ev k
  have hnat_ := fun g_ => f195.nat k (R := Res env) g_
  exact rdC
theorem f195.sound (k : Nat) : SoundC env Try.prog 195 (f195.e k).F := soundC_coer (f195.sound0 k) [[.rd 104, .rd 171, .no], [.rd 4]]
theorem f195.fnok : FnOK Try.prog 195 := fn_ok Try.func195 (by kernel_rfl) rfl
def f196.l5.step {R : Type} (k : Nat) (rec_ : Int → Int → (List S104) → (List (List S174)) → Int → Int → Int → Int → Bool → Option R) (ret : (Int × (List S104) × (List (List S174)) × Int) → Option R) (a6 : Int) (a7 : Int) (xs8 : List S104) (xs9 : List (List S174)) (a10 : Int) (a11 : Int) (a12 : Int) (a13 : Int) (b14 : Bool) : Option R :=
  if (decide (a6 < a10)) = true then
 if (0 : Int) ≤ a11 then
 if a11 < ((List.length xs9 : Nat) : Int) then
 if (0 : Int) ≤ a6 then
 if a6 < ((List.length (List.getD xs9 (Int.toNat a11) []) : Nat) : Int) then
 if (decide (a6 ≠ a11)) = true then
 if (Int.toNat a6) < List.length (List.getD xs9 (Int.toNat a11) []) then
 if (decide ((List.getD (List.getD xs9 (Int.toNat a11) []) (Int.toNat a6) (⟨(0 : Int), (0 : Int), (0 : Int)⟩ : S174)).f1 = a12)) = true then
 if (Int.toNat a6) < List.length (List.getD xs9 (Int.toNat a11) []) then
 if (decide ((List.getD (List.getD xs9 (Int.toNat a11) []) (Int.toNat a6) (⟨(0 : Int), (0 : Int), (0 : Int)⟩ : S174)).f0 < (16 : Int))) = true then
 if (Int.toNat a6) < List.length (List.getD xs9 (Int.toNat a11) []) then
 if (Int.toNat a6) < List.length (List.getD (List.set xs9 (Int.toNat a11) (set174 (List.getD xs9 (Int.toNat a11) []) (Int.toNat a6) 0 [.s (.int .i64 (16 : Int))])) (Int.toNat a11) []) then
 if (0 : Int) ≤ a12 then
 if a12 < ((List.length (List.set (List.set xs9 (Int.toNat a11) (set174 (List.getD xs9 (Int.toNat a11) []) (Int.toNat a6) 0 [.s (.int .i64 (16 : Int))])) (Int.toNat a11) (set174 (List.getD (List.set xs9 (Int.toNat a11) (set174 (List.getD xs9 (Int.toNat a11) []) (Int.toNat a6) 0 [.s (.int .i64 (16 : Int))])) (Int.toNat a11) []) (Int.toNat a6) 2 [.s (.int .i64 (0 : Int))])) : Nat) : Int) then
 if (0 : Int) ≤ a6 then
 if a6 < ((List.length (List.getD (List.set (List.set xs9 (Int.toNat a11) (set174 (List.getD xs9 (Int.toNat a11) []) (Int.toNat a6) 0 [.s (.int .i64 (16 : Int))])) (Int.toNat a11) (set174 (List.getD (List.set xs9 (Int.toNat a11) (set174 (List.getD xs9 (Int.toNat a11) []) (Int.toNat a6) 0 [.s (.int .i64 (16 : Int))])) (Int.toNat a11) []) (Int.toNat a6) 2 [.s (.int .i64 (0 : Int))])) (Int.toNat a12) []) : Nat) : Int) then
 if (decide (a6 ≠ a12)) = true then
 if (Int.toNat a6) < List.length (List.getD (List.set (List.set xs9 (Int.toNat a11) (set174 (List.getD xs9 (Int.toNat a11) []) (Int.toNat a6) 0 [.s (.int .i64 (16 : Int))])) (Int.toNat a11) (set174 (List.getD (List.set xs9 (Int.toNat a11) (set174 (List.getD xs9 (Int.toNat a11) []) (Int.toNat a6) 0 [.s (.int .i64 (16 : Int))])) (Int.toNat a11) []) (Int.toNat a6) 2 [.s (.int .i64 (0 : Int))])) (Int.toNat a12) []) then
 if (decide ((List.getD (List.getD (List.set (List.set xs9 (Int.toNat a11) (set174 (List.getD xs9 (Int.toNat a11) []) (Int.toNat a6) 0 [.s (.int .i64 (16 : Int))])) (Int.toNat a11) (set174 (List.getD (List.set xs9 (Int.toNat a11) (set174 (List.getD xs9 (Int.toNat a11) []) (Int.toNat a6) 0 [.s (.int .i64 (16 : Int))])) (Int.toNat a11) []) (Int.toNat a6) 2 [.s (.int .i64 (0 : Int))])) (Int.toNat a12) []) (Int.toNat a6) (⟨(0 : Int), (0 : Int), (0 : Int)⟩ : S174)).f1 = a11)) = true then
 if (Int.toNat a6) < List.length (List.getD (List.set (List.set xs9 (Int.toNat a11) (set174 (List.getD xs9 (Int.toNat a11) []) (Int.toNat a6) 0 [.s (.int .i64 (16 : Int))])) (Int.toNat a11) (set174 (List.getD (List.set xs9 (Int.toNat a11) (set174 (List.getD xs9 (Int.toNat a11) []) (Int.toNat a6) 0 [.s (.int .i64 (16 : Int))])) (Int.toNat a11) []) (Int.toNat a6) 2 [.s (.int .i64 (0 : Int))])) (Int.toNat a12) []) then
 if (decide ((List.getD (List.getD (List.set (List.set xs9 (Int.toNat a11) (set174 (List.getD xs9 (Int.toNat a11) []) (Int.toNat a6) 0 [.s (.int .i64 (16 : Int))])) (Int.toNat a11) (set174 (List.getD (List.set xs9 (Int.toNat a11) (set174 (List.getD xs9 (Int.toNat a11) []) (Int.toNat a6) 0 [.s (.int .i64 (16 : Int))])) (Int.toNat a11) []) (Int.toNat a6) 2 [.s (.int .i64 (0 : Int))])) (Int.toNat a12) []) (Int.toNat a6) (⟨(0 : Int), (0 : Int), (0 : Int)⟩ : S174)).f0 < (16 : Int))) = true then
 if (Int.toNat a6) < List.length (List.getD (List.set (List.set xs9 (Int.toNat a11) (set174 (List.getD xs9 (Int.toNat a11) []) (Int.toNat a6) 0 [.s (.int .i64 (16 : Int))])) (Int.toNat a11) (set174 (List.getD (List.set xs9 (Int.toNat a11) (set174 (List.getD xs9 (Int.toNat a11) []) (Int.toNat a6) 0 [.s (.int .i64 (16 : Int))])) (Int.toNat a11) []) (Int.toNat a6) 2 [.s (.int .i64 (0 : Int))])) (Int.toNat a12) []) then
 if (Int.toNat a6) < List.length (List.getD (List.set (List.set (List.set xs9 (Int.toNat a11) (set174 (List.getD xs9 (Int.toNat a11) []) (Int.toNat a6) 0 [.s (.int .i64 (16 : Int))])) (Int.toNat a11) (set174 (List.getD (List.set xs9 (Int.toNat a11) (set174 (List.getD xs9 (Int.toNat a11) []) (Int.toNat a6) 0 [.s (.int .i64 (16 : Int))])) (Int.toNat a11) []) (Int.toNat a6) 2 [.s (.int .i64 (0 : Int))])) (Int.toNat a12) (set174 (List.getD (List.set (List.set xs9 (Int.toNat a11) (set174 (List.getD xs9 (Int.toNat a11) []) (Int.toNat a6) 0 [.s (.int .i64 (16 : Int))])) (Int.toNat a11) (set174 (List.getD (List.set xs9 (Int.toNat a11) (set174 (List.getD xs9 (Int.toNat a11) []) (Int.toNat a6) 0 [.s (.int .i64 (16 : Int))])) (Int.toNat a11) []) (Int.toNat a6) 2 [.s (.int .i64 (0 : Int))])) (Int.toNat a12) []) (Int.toNat a6) 0 [.s (.int .i64 (16 : Int))])) (Int.toNat a12) []) then
 rec_ (IntKind.i64.wrap (a6 + (1 : Int))) a7 xs8 (List.set (List.set (List.set (List.set xs9 (Int.toNat a11) (set174 (List.getD xs9 (Int.toNat a11) []) (Int.toNat a6) 0 [.s (.int .i64 (16 : Int))])) (Int.toNat a11) (set174 (List.getD (List.set xs9 (Int.toNat a11) (set174 (List.getD xs9 (Int.toNat a11) []) (Int.toNat a6) 0 [.s (.int .i64 (16 : Int))])) (Int.toNat a11) []) (Int.toNat a6) 2 [.s (.int .i64 (0 : Int))])) (Int.toNat a12) (set174 (List.getD (List.set (List.set xs9 (Int.toNat a11) (set174 (List.getD xs9 (Int.toNat a11) []) (Int.toNat a6) 0 [.s (.int .i64 (16 : Int))])) (Int.toNat a11) (set174 (List.getD (List.set xs9 (Int.toNat a11) (set174 (List.getD xs9 (Int.toNat a11) []) (Int.toNat a6) 0 [.s (.int .i64 (16 : Int))])) (Int.toNat a11) []) (Int.toNat a6) 2 [.s (.int .i64 (0 : Int))])) (Int.toNat a12) []) (Int.toNat a6) 0 [.s (.int .i64 (16 : Int))])) (Int.toNat a12) (set174 (List.getD (List.set (List.set (List.set xs9 (Int.toNat a11) (set174 (List.getD xs9 (Int.toNat a11) []) (Int.toNat a6) 0 [.s (.int .i64 (16 : Int))])) (Int.toNat a11) (set174 (List.getD (List.set xs9 (Int.toNat a11) (set174 (List.getD xs9 (Int.toNat a11) []) (Int.toNat a6) 0 [.s (.int .i64 (16 : Int))])) (Int.toNat a11) []) (Int.toNat a6) 2 [.s (.int .i64 (0 : Int))])) (Int.toNat a12) (set174 (List.getD (List.set (List.set xs9 (Int.toNat a11) (set174 (List.getD xs9 (Int.toNat a11) []) (Int.toNat a6) 0 [.s (.int .i64 (16 : Int))])) (Int.toNat a11) (set174 (List.getD (List.set xs9 (Int.toNat a11) (set174 (List.getD xs9 (Int.toNat a11) []) (Int.toNat a6) 0 [.s (.int .i64 (16 : Int))])) (Int.toNat a11) []) (Int.toNat a6) 2 [.s (.int .i64 (0 : Int))])) (Int.toNat a12) []) (Int.toNat a6) 0 [.s (.int .i64 (16 : Int))])) (Int.toNat a12) []) (Int.toNat a6) 2 [.s (.int .i64 (0 : Int))])) a10 a11 a12 a13 b14
 else none
 else none
 else
 rec_ (IntKind.i64.wrap (a6 + (1 : Int))) a7 xs8 (List.set (List.set xs9 (Int.toNat a11) (set174 (List.getD xs9 (Int.toNat a11) []) (Int.toNat a6) 0 [.s (.int .i64 (16 : Int))])) (Int.toNat a11) (set174 (List.getD (List.set xs9 (Int.toNat a11) (set174 (List.getD xs9 (Int.toNat a11) []) (Int.toNat a6) 0 [.s (.int .i64 (16 : Int))])) (Int.toNat a11) []) (Int.toNat a6) 2 [.s (.int .i64 (0 : Int))])) a10 a11 a12 a13 b14
 else none
 else
 rec_ (IntKind.i64.wrap (a6 + (1 : Int))) a7 xs8 (List.set (List.set xs9 (Int.toNat a11) (set174 (List.getD xs9 (Int.toNat a11) []) (Int.toNat a6) 0 [.s (.int .i64 (16 : Int))])) (Int.toNat a11) (set174 (List.getD (List.set xs9 (Int.toNat a11) (set174 (List.getD xs9 (Int.toNat a11) []) (Int.toNat a6) 0 [.s (.int .i64 (16 : Int))])) (Int.toNat a11) []) (Int.toNat a6) 2 [.s (.int .i64 (0 : Int))])) a10 a11 a12 a13 b14
 else none
 else
 rec_ (IntKind.i64.wrap (a6 + (1 : Int))) a7 xs8 (List.set (List.set xs9 (Int.toNat a11) (set174 (List.getD xs9 (Int.toNat a11) []) (Int.toNat a6) 0 [.s (.int .i64 (16 : Int))])) (Int.toNat a11) (set174 (List.getD (List.set xs9 (Int.toNat a11) (set174 (List.getD xs9 (Int.toNat a11) []) (Int.toNat a6) 0 [.s (.int .i64 (16 : Int))])) (Int.toNat a11) []) (Int.toNat a6) 2 [.s (.int .i64 (0 : Int))])) a10 a11 a12 a13 b14
 else none
 else none
 else none
 else none
 else none
 else none
 else
 if (0 : Int) ≤ a12 then
 if a12 < ((List.length xs9 : Nat) : Int) then
 if (0 : Int) ≤ a6 then
 if a6 < ((List.length (List.getD xs9 (Int.toNat a12) []) : Nat) : Int) then
 if (decide (a6 ≠ a12)) = true then
 if (Int.toNat a6) < List.length (List.getD xs9 (Int.toNat a12) []) then
 if (decide ((List.getD (List.getD xs9 (Int.toNat a12) []) (Int.toNat a6) (⟨(0 : Int), (0 : Int), (0 : Int)⟩ : S174)).f1 = a11)) = true then
 if (Int.toNat a6) < List.length (List.getD xs9 (Int.toNat a12) []) then
 if (decide ((List.getD (List.getD xs9 (Int.toNat a12) []) (Int.toNat a6) (⟨(0 : Int), (0 : Int), (0 : Int)⟩ : S174)).f0 < (16 : Int))) = true then
 if (Int.toNat a6) < List.length (List.getD xs9 (Int.toNat a12) []) then
 if (Int.toNat a6) < List.length (List.getD (List.set xs9 (Int.toNat a12) (set174 (List.getD xs9 (Int.toNat a12) []) (Int.toNat a6) 0 [.s (.int .i64 (16 : Int))])) (Int.toNat a12) []) then
 rec_ (IntKind.i64.wrap (a6 + (1 : Int))) a7 xs8 (List.set (List.set xs9 (Int.toNat a12) (set174 (List.getD xs9 (Int.toNat a12) []) (Int.toNat a6) 0 [.s (.int .i64 (16 : Int))])) (Int.toNat a12) (set174 (List.getD (List.set xs9 (Int.toNat a12) (set174 (List.getD xs9 (Int.toNat a12) []) (Int.toNat a6) 0 [.s (.int .i64 (16 : Int))])) (Int.toNat a12) []) (Int.toNat a6) 2 [.s (.int .i64 (0 : Int))])) a10 a11 a12 a13 b14
 else none
 else none
 else
 rec_ (IntKind.i64.wrap (a6 + (1 : Int))) a7 xs8 xs9 a10 a11 a12 a13 b14
 else none
 else
 rec_ (IntKind.i64.wrap (a6 + (1 : Int))) a7 xs8 xs9 a10 a11 a12 a13 b14
 else none
 else
 rec_ (IntKind.i64.wrap (a6 + (1 : Int))) a7 xs8 xs9 a10 a11 a12 a13 b14
 else none
 else none
 else none
 else none
 else none
 else
 if (0 : Int) ≤ a12 then
 if a12 < ((List.length xs9 : Nat) : Int) then
 if (0 : Int) ≤ a6 then
 if a6 < ((List.length (List.getD xs9 (Int.toNat a12) []) : Nat) : Int) then
 if (decide (a6 ≠ a12)) = true then
 if (Int.toNat a6) < List.length (List.getD xs9 (Int.toNat a12) []) then
 if (decide ((List.getD (List.getD xs9 (Int.toNat a12) []) (Int.toNat a6) (⟨(0 : Int), (0 : Int), (0 : Int)⟩ : S174)).f1 = a11)) = true then
 if (Int.toNat a6) < List.length (List.getD xs9 (Int.toNat a12) []) then
 if (decide ((List.getD (List.getD xs9 (Int.toNat a12) []) (Int.toNat a6) (⟨(0 : Int), (0 : Int), (0 : Int)⟩ : S174)).f0 < (16 : Int))) = true then
 if (Int.toNat a6) < List.length (List.getD xs9 (Int.toNat a12) []) then
 if (Int.toNat a6) < List.length (List.getD (List.set xs9 (Int.toNat a12) (set174 (List.getD xs9 (Int.toNat a12) []) (Int.toNat a6) 0 [.s (.int .i64 (16 : Int))])) (Int.toNat a12) []) then
 rec_ (IntKind.i64.wrap (a6 + (1 : Int))) a7 xs8 (List.set (List.set xs9 (Int.toNat a12) (set174 (List.getD xs9 (Int.toNat a12) []) (Int.toNat a6) 0 [.s (.int .i64 (16 : Int))])) (Int.toNat a12) (set174 (List.getD (List.set xs9 (Int.toNat a12) (set174 (List.getD xs9 (Int.toNat a12) []) (Int.toNat a6) 0 [.s (.int .i64 (16 : Int))])) (Int.toNat a12) []) (Int.toNat a6) 2 [.s (.int .i64 (0 : Int))])) a10 a11 a12 a13 b14
 else none
 else none
 else
 rec_ (IntKind.i64.wrap (a6 + (1 : Int))) a7 xs8 xs9 a10 a11 a12 a13 b14
 else none
 else
 rec_ (IntKind.i64.wrap (a6 + (1 : Int))) a7 xs8 xs9 a10 a11 a12 a13 b14
 else none
 else
 rec_ (IntKind.i64.wrap (a6 + (1 : Int))) a7 xs8 xs9 a10 a11 a12 a13 b14
 else none
 else none
 else none
 else none
 else none
 else
 if (0 : Int) ≤ a12 then
 if a12 < ((List.length xs9 : Nat) : Int) then
 if (0 : Int) ≤ a6 then
 if a6 < ((List.length (List.getD xs9 (Int.toNat a12) []) : Nat) : Int) then
 if (decide (a6 ≠ a12)) = true then
 if (Int.toNat a6) < List.length (List.getD xs9 (Int.toNat a12) []) then
 if (decide ((List.getD (List.getD xs9 (Int.toNat a12) []) (Int.toNat a6) (⟨(0 : Int), (0 : Int), (0 : Int)⟩ : S174)).f1 = a11)) = true then
 if (Int.toNat a6) < List.length (List.getD xs9 (Int.toNat a12) []) then
 if (decide ((List.getD (List.getD xs9 (Int.toNat a12) []) (Int.toNat a6) (⟨(0 : Int), (0 : Int), (0 : Int)⟩ : S174)).f0 < (16 : Int))) = true then
 if (Int.toNat a6) < List.length (List.getD xs9 (Int.toNat a12) []) then
 if (Int.toNat a6) < List.length (List.getD (List.set xs9 (Int.toNat a12) (set174 (List.getD xs9 (Int.toNat a12) []) (Int.toNat a6) 0 [.s (.int .i64 (16 : Int))])) (Int.toNat a12) []) then
 rec_ (IntKind.i64.wrap (a6 + (1 : Int))) a7 xs8 (List.set (List.set xs9 (Int.toNat a12) (set174 (List.getD xs9 (Int.toNat a12) []) (Int.toNat a6) 0 [.s (.int .i64 (16 : Int))])) (Int.toNat a12) (set174 (List.getD (List.set xs9 (Int.toNat a12) (set174 (List.getD xs9 (Int.toNat a12) []) (Int.toNat a6) 0 [.s (.int .i64 (16 : Int))])) (Int.toNat a12) []) (Int.toNat a6) 2 [.s (.int .i64 (0 : Int))])) a10 a11 a12 a13 b14
 else none
 else none
 else
 rec_ (IntKind.i64.wrap (a6 + (1 : Int))) a7 xs8 xs9 a10 a11 a12 a13 b14
 else none
 else
 rec_ (IntKind.i64.wrap (a6 + (1 : Int))) a7 xs8 xs9 a10 a11 a12 a13 b14
 else none
 else
 rec_ (IntKind.i64.wrap (a6 + (1 : Int))) a7 xs8 xs9 a10 a11 a12 a13 b14
 else none
 else none
 else none
 else none
 else none
 else none
 else none
 else none
 else
 ret (a7, xs8, xs9, a10)
def f196.l5 (k : Nat) : Nat → Int → Int → (List S104) → (List (List S174)) → Int → Int → Int → Int → Bool → Option (Int × (List S104) × (List (List S174)) × Int)
  | 0, _, _, _, _, _, _, _, _, _ => none
  | j + 1, a6, a7, xs8, xs9, a10, a11, a12, a13, b14 => f196.l5.step k (fun a6 a7 xs8 xs9 a10 a11 a12 a13 b14 => f196.l5 k j a6 a7 xs8 xs9 a10 a11 a12 a13 b14) some a6 a7 xs8 xs9 a10 a11 a12 a13 b14
def f196.l5.w {R : Type} : (Int × (List S104) × (List (List S174)) × Int) → (Exit → St env → Option R) → Option R := fun t16 K => K (.exit 0) ⟨fullT [4, 5] 0 97 [.v (.c (.bp 18 0)), .v (.c (.bp 66 0))], [(18, .box [.s (.slice none 0 0), .s (.slice none 0 0), .s (.int .i64 t16.1)]), (50, .row true 104 t16.2.1), (51, .row true 171 t16.2.2.1), (66, .box [.row 50, .row 51, .s (.int .i64 t16.2.2.2)])], 1618⟩
def f196.l5.st (a6 : Int) (a7 : Int) (xs8 : List S104) (xs9 : List (List S174)) (a10 : Int) (a11 : Int) (a12 : Int) (a13 : Int) (b14 : Bool) : St env := ⟨fullT [4, 5, 6, 7] 0 97 [.v (.c (.bp 18 0)), .v (.c (.bp 66 0)), .v (.c (.bp 274 0)), .v (.c (.s (.int .i64 a6)))], [(18, .box [.s (.slice none 0 0), .s (.slice none 0 0), .s (.int .i64 a7)]), (50, .row true 104 xs8), (51, .row true 171 xs9), (66, .box [.row 50, .row 51, .s (.int .i64 a10)]), (274, .box [.s (.int .i64 a11), .s (.int .i64 a12), .s (.int .i64 a13), .s (.bool b14)])], 322⟩
def f196.l5.hd (k : Nat) (ts_ : List (AV env)) (mm_ : Mem env) (n_ : Nat) : LCl env :=
  gTs Ln [4, 5, 6, 7] 97 ts_ fun l_ => tP Ln 18 l_ fun l_ => tP Ln 66 l_ fun l_ => tP Ln 274 l_ fun l_ => tI Ln l_ fun a6 l_ => gE Ln l_ <| mBox Ln 18 mm_ fun c_ m_ => cN Ln c_ fun c_ => cN Ln c_ fun c_ => cI Ln c_ fun a7 c_ => gE Ln c_ <| mRow Ln 50 true 104 m_ fun xs8 m_ => mRow Ln 51 true 171 m_ fun xs9 m_ => mBox Ln 66 m_ fun c_ m_ => cR Ln 50 c_ fun c_ => cR Ln 51 c_ fun c_ => cI Ln c_ fun a10 c_ => gE Ln c_ <| mBox Ln 274 m_ fun c_ m_ => cI Ln c_ fun a11 c_ => cI Ln c_ fun a12 c_ => cI Ln c_ fun a13 c_ => cB Ln c_ fun b14 c_ => gE Ln c_ <| gE Ln m_ <| gN Ln 322 n_ { α := Int × (List S104) × (List (List S174)) × Int, o := f196.l5 k k a6 a7 xs8 xs9 a10 a11 a12 a13 b14, w := f196.l5.w }
def f196.step {R : Type} (k : Nat) (ret : ((List S104) × (List (List S174)) × Int) → Option R) (xs1 : List S104) (xs2 : List (List S174)) (a3 : Int) (a4 : Int) : Option R :=
  (f181 k xs1 xs2 a3).bind fun t5 => if (0 : Int) ≤ a4 then
 if a4 < ((List.length t5.1 : Nat) : Int) then
 if (0 : Int) ≤ a4 then
 if a4 < ((List.length (set104 t5.1 (Int.toNat a4) 3 [.s (.bool false)]) : Nat) : Int) then
 (f196.l5 k k (0 : Int) (0 : Int) (set104 t5.1 (Int.toNat a4) 3 [.s (.bool false)]) t5.2.1 t5.2.2 (List.getD (set104 t5.1 (Int.toNat a4) 3 [.s (.bool false)]) (Int.toNat a4) (⟨(0 : Int), (0 : Int), (0 : Int), false⟩ : S104)).f0 (List.getD (set104 t5.1 (Int.toNat a4) 3 [.s (.bool false)]) (Int.toNat a4) (⟨(0 : Int), (0 : Int), (0 : Int), false⟩ : S104)).f1 (List.getD (set104 t5.1 (Int.toNat a4) 3 [.s (.bool false)]) (Int.toNat a4) (⟨(0 : Int), (0 : Int), (0 : Int), false⟩ : S104)).f2 (List.getD (set104 t5.1 (Int.toNat a4) 3 [.s (.bool false)]) (Int.toNat a4) (⟨(0 : Int), (0 : Int), (0 : Int), false⟩ : S104)).f3).bind fun t15 => ret (t15.2.1, t15.2.2.1, t15.2.2.2)
 else none
 else none
 else none
 else none
def f196 (k : Nat) (xs1 : List S104) (xs2 : List (List S174)) (a3 : Int) (a4 : Int) : Option ((List S104) × (List (List S174)) × Int) := f196.step k some xs1 xs2 a3 a4
def f196.w {R : Type} : ((List S104) × (List (List S174)) × Int) → (Res env → Option R) → Option R := fun t17 K => K ⟨.v (.g [.own true 104 t17.1, .own true 171 t17.2.1, .s (.int .i64 t17.2.2)]), [[], []]⟩
theorem f196.wn (x : ((List S104) × (List (List S174)) × Int)) : ∃ res, ∀ {R : Type} (K : Res env → Option R), f196.w x K = K res := by
  exact ⟨_, fun _ => rfl⟩
def f196.hd (k : Nat) (ps_ : List (P2 env)) : Cl env :=
  gC Cl.no ps_ fun p_ ps_ => qG Cl.no p_ fun cs_ => dM Cl.no 104 cs_ fun xs1 cs_ => dM Cl.no 171 cs_ fun xs2 cs_ => dI Cl.no cs_ fun a3 cs_ => gE Cl.no cs_ <| pI Cl.no ps_ fun a4 ps_ => gE Cl.no ps_ <| { α := (List S104) × (List (List S174)) × Int, o := f196 k xs1 xs2 a3 a4, w := f196.w, nat := fun x _ => f196.wn x }
def f196.e (k : Nat) : Entry env := ⟨fun ps => f196.hd k (coer [[.rd 104, .rd 171, .no], [.no]] ps), [], []⟩
def f196.X (k : Nat) : Ctx env := { C := lookE [(181, f181.e k)], L := lookE [(5, fun S => f196.l5.hd k S.ts S.m S.n)], J := lookE [], keep := lookD [(5, [4, 5, 6, 7])], keepX := lookD [(5, [4, 5])], span := lookN [(5, 1296)], eff := fun n => memN n [], prep := lookP [], np := 0, vb := lookN [(6, 1), (7, 2)] }
theorem f196.l5.nat {R : Type} (k : Nat) (rec_) (g : _ → Option R) (a6 a7 xs8 xs9 a10 a11 a12 a13 b14) : (f196.l5.step k rec_ some a6 a7 xs8 xs9 a10 a11 a12 a13 b14).bind g = f196.l5.step k (fun a6 a7 xs8 xs9 a10 a11 a12 a13 b14 => (rec_ a6 a7 xs8 xs9 a10 a11 a12 a13 b14).bind g) g a6 a7 xs8 xs9 a10 a11 a12 a13 b14 := by
  simp only [f196.l5.step, bind_ite, bind_sum, Option.bind_assoc, Option.bind_some, Option.bind_none]
theorem f196.l5.good (k : Nat) (a6 a7 xs8 xs9 a10 a11 a12 a13 b14) : GoodL (f196.X k) (nthC 0 (loopsOf (bodyOf Try.f196))) (f196.l5.st a6 a7 xs8 xs9 a10 a11 a12 a13 b14) { α := _, o := f196.l5 k k a6 a7 xs8 xs9 a10 a11 a12 a13 b14, w := f196.l5.w } :=
  loop_good (ι := Int × Int × (List S104) × (List (List S174)) × Int × Int × Int × Int × Bool) (α := (Int × (List S104) × (List (List S174)) × Int)) (fun i => f196.l5.st i.1 i.2.1 i.2.2.1 i.2.2.2.1 i.2.2.2.2.1 i.2.2.2.2.2.1 i.2.2.2.2.2.2.1 i.2.2.2.2.2.2.2.1 i.2.2.2.2.2.2.2.2) (fun j i => f196.l5 k j i.1 i.2.1 i.2.2.1 i.2.2.2.1 i.2.2.2.2.1 i.2.2.2.2.2.1 i.2.2.2.2.2.2.1 i.2.2.2.2.2.2.2.1 i.2.2.2.2.2.2.2.2) f196.l5.w (fun rec_ ret i => f196.l5.step k (fun a6 a7 xs8 xs9 a10 a11 a12 a13 b14 => rec_ (a6, a7, xs8, xs9, a10, a11, a12, a13, b14)) ret i.1 i.2.1 i.2.2.1 i.2.2.2.1 i.2.2.2.2.1 i.2.2.2.2.2.1 i.2.2.2.2.2.2.1 i.2.2.2.2.2.2.2.1 i.2.2.2.2.2.2.2.2)
    (fun _ => rfl) (fun _ _ => rfl) (fun rec_ g i => f196.l5.nat k _ g i.1 i.2.1 i.2.2.1 i.2.2.2.1 i.2.2.2.2.1 i.2.2.2.2.2.1 i.2.2.2.2.2.2.1 i.2.2.2.2.2.2.2.1 i.2.2.2.2.2.2.2.2) (fun {R} i0 i rec_ K => by kernel_rfl) k (a6, a7, xs8, xs9, a10, a11, a12, a13, b14)
theorem f196.l5.all (k : Nat) (S : St env) : GoodL (f196.X k) (nthC 0 (loopsOf (bodyOf Try.f196))) S (f196.l5.hd k S.ts S.m S.n) := by
  obtain ⟨ts_, m_, n_⟩ := S
  show GoodL _ _ _ (f196.l5.hd k ts_ m_ n_)
  unfold f196.l5.hd
  have hg_ := f196.l5.good k
  exact rdL
theorem f196.nat {R : Type} (k : Nat) (g : _ → Option R) (xs1 xs2 a3 a4) : f196.step k g xs1 xs2 a3 a4 = (f196 k xs1 xs2 a3 a4).bind g := by
  simp only [f196, f196.step, bind_ite, bind_sum, Option.bind_assoc, Option.bind_some, Option.bind_none]
theorem f196.ev (k : Nat) (xs1 : List S104) (xs2 : List (List S174)) (a3 : Int) (a4 : Int) : evF (f196.X k) (bodyOf Try.f196) Try.f196.ntmps Try.f196.results.toList [.g [.sl 104 xs1, .sl 171 xs2, .s (.int .i64 a3)], .v (.c (.s (.int .i64 a4)))] = f196.step k (fun x => f196.w x some) xs1 xs2 a3 a4 := by kernel_rfl
theorem f196.hok (k : Nat) : HOK (f196.X k) (bodyOf Try.f196) where
  l := allP_mem (by exact ⟨ls_of (h0 := fun S => f196.l5.hd k S.ts S.m S.n) (by kernel_rfl) (f196.l5.all k), trivial⟩)
  j := allP_mem (by exact trivial)
  q := allP_mem (by exact trivial)
theorem f196.sound0 (k : Nat) : SoundC env Try.prog 196 (f196.hd k) := by
  intro ps_
  show GoodC _ _ _ ps_ (f196.hd k ps_)
  unfold f196.hd
  have hF_ := fun_sound envOK (cs_sound _ (by exact ⟨⟨f181.sound k, f181.fnok⟩, trivial⟩)) (f196.hok k) Try.func196 rfl
  have hev_ := f196.ev k
  have hnat_ := fun g_ => f196.nat k (R := Res env) g_
  exact rdC
theorem f196.sound (k : Nat) : SoundC env Try.prog 196 (f196.e k).F := soundC_coer (f196.sound0 k) [[.rd 104, .rd 171, .no], [.no]]
theorem f196.fnok : FnOK Try.prog 196 := fn_ok Try.func196 (by kernel_rfl) rfl
def f180.step {R : Type} (k : Nat) (ret : (((List S104) × (List (List S174)) × Int × Int) ⊕ ((List S104) × (List (List S174)) × Int × Int)) → Option R) (xs1 : List S104) (xs2 : List (List S174)) (a3 : Int) (a4 : Int) (a5 : Int) (xs6 : List Bool) : Option R :=
  if (decide (a4 = (1 : Int))) = true then
 (f195 k xs1 xs2 a3 ([] : List Bool)).bind fun t7 => ret (.inl (t7.1, t7.2.1, t7.2.2, (0 : Int)))
 else
 if (decide (a4 = (4 : Int))) = true then
 (f195 k xs1 xs2 a3 xs6).bind fun t8 => ret (.inl (t8.1, t8.2.1, t8.2.2, (0 : Int)))
 else
 if (decide (a4 = (2 : Int))) = true then
 if (decide (a4 = (2 : Int))) = true then
 (f61 k a5 (0 : Int) (IntKind.i64.wrap ((((List.length xs1) : Nat) : Int) - (1 : Int)))).bind fun t9 => if (!t9) = true then
 ret (.inr (xs1, xs2, a3, (4 : Int)))
 else
 if (0 : Int) ≤ a5 then
 if a5 < ((List.length xs1 : Nat) : Int) then
 if ((List.getD xs1 (Int.toNat a5) (⟨(0 : Int), (0 : Int), (0 : Int), false⟩ : S104)).f3 == (decide (a4 = (2 : Int)))) = true then
 ret (.inr (xs1, xs2, a3, (9 : Int)))
 else
 if (decide (a4 = (3 : Int))) = true then
 (f196 k xs1 xs2 a3 a5).bind fun t10 => ret (.inl (t10.1, t10.2.1, t10.2.2, (0 : Int)))
 else
 (f181 k xs1 xs2 a3).bind fun t11 => if (0 : Int) ≤ a5 then
 if a5 < ((List.length t11.1 : Nat) : Int) then
 ret (.inl ((set104 t11.1 (Int.toNat a5) 3 [.s (.bool true)]), t11.2.1, t11.2.2, (0 : Int)))
 else none
 else none
 else none
 else none
 else
 ret (.inr (xs1, xs2, a3, (3 : Int)))
 else
 if (decide (a4 = (3 : Int))) = true then
 (f61 k a5 (0 : Int) (IntKind.i64.wrap ((((List.length xs1) : Nat) : Int) - (1 : Int)))).bind fun t12 => if (!t12) = true then
 ret (.inr (xs1, xs2, a3, (4 : Int)))
 else
 if (0 : Int) ≤ a5 then
 if a5 < ((List.length xs1 : Nat) : Int) then
 if ((List.getD xs1 (Int.toNat a5) (⟨(0 : Int), (0 : Int), (0 : Int), false⟩ : S104)).f3 == (decide (a4 = (2 : Int)))) = true then
 ret (.inr (xs1, xs2, a3, (9 : Int)))
 else
 if (decide (a4 = (3 : Int))) = true then
 (f196 k xs1 xs2 a3 a5).bind fun t13 => ret (.inl (t13.1, t13.2.1, t13.2.2, (0 : Int)))
 else
 (f181 k xs1 xs2 a3).bind fun t14 => if (0 : Int) ≤ a5 then
 if a5 < ((List.length t14.1 : Nat) : Int) then
 ret (.inl ((set104 t14.1 (Int.toNat a5) 3 [.s (.bool true)]), t14.2.1, t14.2.2, (0 : Int)))
 else none
 else none
 else none
 else none
 else
 ret (.inr (xs1, xs2, a3, (3 : Int)))
def f180 (k : Nat) (xs1 : List S104) (xs2 : List (List S174)) (a3 : Int) (a4 : Int) (a5 : Int) (xs6 : List Bool) : Option (((List S104) × (List (List S174)) × Int × Int) ⊕ ((List S104) × (List (List S174)) × Int × Int)) := f180.step k some xs1 xs2 a3 a4 a5 xs6
def f180.w {R : Type} : (((List S104) × (List (List S174)) × Int × Int) ⊕ ((List S104) × (List (List S174)) × Int × Int)) → (Res env → Option R) → Option R := fun x K => Sum.elim (fun t15 => K ⟨.tup [.g [.own true 104 t15.1, .own true 171 t15.2.1, .s (.int .i64 t15.2.2.1)], .c (.s (.int .i64 t15.2.2.2))], [[], []]⟩) (fun t16 => K ⟨.tup [.g [.imm 104 t16.1, .imm 171 t16.2.1, .s (.int .i64 t16.2.2.1)], .c (.s (.int .i64 t16.2.2.2))], [[], []]⟩) x
theorem f180.wn (x : (((List S104) × (List (List S174)) × Int × Int) ⊕ ((List S104) × (List (List S174)) × Int × Int))) : ∃ res, ∀ {R : Type} (K : Res env → Option R), f180.w x K = K res := by
  rcases x with x | x <;> exact ⟨_, fun _ => rfl⟩
def f180.hd (k : Nat) (ps_ : List (P2 env)) : Cl env :=
  gC Cl.no ps_ fun p_ ps_ => qG Cl.no p_ fun cs_ => dM Cl.no 104 cs_ fun xs1 cs_ => dM Cl.no 171 cs_ fun xs2 cs_ => dI Cl.no cs_ fun a3 cs_ => gE Cl.no cs_ <| gC Cl.no ps_ fun p_ ps_ => qG Cl.no p_ fun cs_ => dI Cl.no cs_ fun a4 cs_ => dI Cl.no cs_ fun a5 cs_ => dM Cl.no 4 cs_ fun xs6 cs_ => gE Cl.no cs_ <| gE Cl.no ps_ <| { α := ((List S104) × (List (List S174)) × Int × Int) ⊕ ((List S104) × (List (List S174)) × Int × Int), o := f180 k xs1 xs2 a3 a4 a5 xs6, w := f180.w, nat := fun x _ => f180.wn x }
def f180.e (k : Nat) : Entry env := ⟨fun ps => f180.hd k (coer [[.rd 104, .rd 171, .no], [.no, .no, .rd 4]] ps), [], []⟩
def f180.X (k : Nat) : Ctx env := { C := lookE [(61, f61.e k), (181, f181.e k), (195, f195.e k), (196, f196.e k)], L := lookE [], J := lookE [], keep := lookD [], keepX := lookD [], span := lookN [], eff := fun n => memN n [], prep := lookP [], np := 0 }
theorem f180.nat {R : Type} (k : Nat) (g : _ → Option R) (xs1 xs2 a3 a4 a5 xs6) : f180.step k g xs1 xs2 a3 a4 a5 xs6 = (f180 k xs1 xs2 a3 a4 a5 xs6).bind g := by
  simp only [f180, f180.step, bind_ite, bind_sum, Option.bind_assoc, Option.bind_some, Option.bind_none]
theorem f180.ev (k : Nat) (xs1 : List S104) (xs2 : List (List S174)) (a3 : Int) (a4 : Int) (a5 : Int) (xs6 : List Bool) : evF (f180.X k) (bodyOf Try.f180) Try.f180.ntmps Try.f180.results.toList [.g [.sl 104 xs1, .sl 171 xs2, .s (.int .i64 a3)], .g [.s (.int .i64 a4), .s (.int .i64 a5), .sl 4 xs6]] = f180.step k (fun x => f180.w x some) xs1 xs2 a3 a4 a5 xs6 := by kernel_rfl
theorem f180.hok (k : Nat) : HOK (f180.X k) (bodyOf Try.f180) where
  l := allP_mem (by exact trivial)
  j := allP_mem (by exact trivial)
  q := allP_mem (by exact trivial)
theorem f180.sound0 (k : Nat) : SoundC env Try.prog 180 (f180.hd k) := by
  intro ps_
  show GoodC _ _ _ ps_ (f180.hd k ps_)
  unfold f180.hd
  have hF_ := fun_sound envOK (cs_sound _ (by exact ⟨⟨f61.sound k, f61.fnok⟩, ⟨f181.sound k, f181.fnok⟩, ⟨f195.sound k, f195.fnok⟩, ⟨f196.sound k, f196.fnok⟩, trivial⟩)) (f180.hok k) Try.func180 rfl
  have hev_ := f180.ev k
  have hnat_ := fun g_ => f180.nat k (R := Res env) g_
  exact rdC
theorem f180.sound (k : Nat) : SoundC env Try.prog 180 (f180.e k).F := soundC_coer (f180.sound0 k) [[.rd 104, .rd 171, .no], [.no, .no, .rd 4]]
theorem f180.fnok : FnOK Try.prog 180 := fn_ok Try.func180 (by kernel_rfl) rfl
def f131.l9.step {R : Type} (k : Nat) (rec_ : (List S207) → Int → (List S104) → (List (List S174)) → Int → Int → (List Int) → Option R) (ret : ((Int × (List S104) × (List (List S174)) × Int × Int × (List Int) × (List Int)) ⊕ ((List S104) × (List (List S174)) × Int × Int × (List Int))) → Option R) (xs6 : List S207) (a7 : Int) (xs8 : List S104) (xs9 : List (List S174)) (a10 : Int) (a11 : Int) (xs12 : List Int) : Option R :=
  if (decide (a7 < (((List.length xs6) : Nat) : Int))) = true then
 if (0 : Int) ≤ a7 then
 if a7 < ((List.length xs6 : Nat) : Int) then
 if (decide ((((List.length (List.getD xs6 (Int.toNat a7) (⟨(0 : Int), (0 : Int), []⟩ : S207)).f2) : Nat) : Int) > (4096 : Int))) = true then
 ret (.inl ((2 : Int), xs8, xs9, a10, (0 : Int), xs12, ([] : List Int)))
 else
 if (0 : Int) ≤ a7 then
 if a7 < ((List.length xs6 : Nat) : Int) then
 (f180 k xs8 xs9 a10 (List.getD xs6 (Int.toNat a7) (⟨(0 : Int), (0 : Int), []⟩ : S207)).f0 (List.getD xs6 (Int.toNat a7) (⟨(0 : Int), (0 : Int), []⟩ : S207)).f1 (List.getD xs6 (Int.toNat a7) (⟨(0 : Int), (0 : Int), []⟩ : S207)).f2).bind (Sum.elim (fun t13 => if (List.length xs12 + List.length ([t13.2.2.2] : List Int)) * 8 ≤ maxN then
 rec_ xs6 (IntKind.i64.wrap (a7 + (1 : Int))) t13.1 t13.2.1 t13.2.2.1 a11 (xs12 ++ ([t13.2.2.2] : List Int))
 else none) (fun t14 => if (List.length xs12 + List.length ([t14.2.2.2] : List Int)) * 8 ≤ maxN then
 rec_ xs6 (IntKind.i64.wrap (a7 + (1 : Int))) t14.1 t14.2.1 t14.2.2.1 a11 (xs12 ++ ([t14.2.2.2] : List Int))
 else none))
 else none
 else none
 else none
 else none
 else
 ret (.inr (xs8, xs9, a10, a11, xs12))
def f131.l9 (k : Nat) : Nat → (List S207) → Int → (List S104) → (List (List S174)) → Int → Int → (List Int) → Option ((Int × (List S104) × (List (List S174)) × Int × Int × (List Int) × (List Int)) ⊕ ((List S104) × (List (List S174)) × Int × Int × (List Int)))
  | 0, _, _, _, _, _, _, _ => none
  | j + 1, xs6, a7, xs8, xs9, a10, a11, xs12 => f131.l9.step k (fun xs6 a7 xs8 xs9 a10 a11 xs12 => f131.l9 k j xs6 a7 xs8 xs9 a10 a11 xs12) some xs6 a7 xs8 xs9 a10 a11 xs12
def f131.l9.w {R : Type} : ((Int × (List S104) × (List (List S174)) × Int × Int × (List Int) × (List Int)) ⊕ ((List S104) × (List (List S174)) × Int × Int × (List Int))) → (Exit → St env → Option R) → Option R := fun x K => Sum.elim (fun t18 => K .ret ⟨fullT [2, 4, 5, 6, 7] 0 59 [.v (.c (.bp 2 0)), .v (.c (.bp 18 0)), .v (.c (.row 450)), .v (.c (.s (.int .i64 t18.1))), .v (.c (.row 210))], [(2, .box [.imm 104 t18.2.1, .imm 171 t18.2.2.1, .s (.int .i64 t18.2.2.2.1)]), (18, .box [.s (.slice none 0 0), .s (.slice none 0 0), .s (.int .i64 t18.2.2.2.2.1)]), (210, .row true 3 t18.2.2.2.2.2.1), (450, .row true 3 t18.2.2.2.2.2.2)], 866⟩) (fun t19 => K (.exit 0) ⟨fullT [2, 4, 7] 0 59 [.v (.c (.bp 2 0)), .v (.c (.bp 18 0)), .v (.c (.row 210))], [(2, .box [.imm 104 t19.1, .imm 171 t19.2.1, .s (.int .i64 t19.2.2.1)]), (18, .box [.s (.slice none 0 0), .s (.slice none 0 0), .s (.int .i64 t19.2.2.2.1)]), (210, .row true 3 t19.2.2.2.2)], 866⟩) x
def f131.l9.st (xs6 : List S207) (a7 : Int) (xs8 : List S104) (xs9 : List (List S174)) (a10 : Int) (a11 : Int) (xs12 : List Int) : St env := ⟨fullT [1, 2, 4, 7, 8] 0 59 [.v (.c (.imm 207 xs6)), .v (.c (.bp 2 0)), .v (.c (.bp 18 0)), .v (.c (.row 210)), .v (.c (.s (.int .i64 a7)))], [(2, .box [.imm 104 xs8, .imm 171 xs9, .s (.int .i64 a10)]), (18, .box [.s (.slice none 0 0), .s (.slice none 0 0), .s (.int .i64 a11)]), (210, .row true 3 xs12)], 258⟩
def f131.l9.hd (k : Nat) (ts_ : List (AV env)) (mm_ : Mem env) (n_ : Nat) : LCl env :=
  gTs Ln [1, 2, 4, 7, 8] 59 ts_ fun l_ => tM Ln 207 l_ fun xs6 l_ => tP Ln 2 l_ fun l_ => tP Ln 18 l_ fun l_ => tR Ln 210 l_ fun l_ => tI Ln l_ fun a7 l_ => gE Ln l_ <| mBox Ln 2 mm_ fun c_ m_ => cM Ln 104 c_ fun xs8 c_ => cM Ln 171 c_ fun xs9 c_ => cI Ln c_ fun a10 c_ => gE Ln c_ <| mBox Ln 18 m_ fun c_ m_ => cN Ln c_ fun c_ => cN Ln c_ fun c_ => cI Ln c_ fun a11 c_ => gE Ln c_ <| mRow Ln 210 true 3 m_ fun xs12 m_ => gE Ln m_ <| gN Ln 258 n_ { α := (Int × (List S104) × (List (List S174)) × Int × Int × (List Int) × (List Int)) ⊕ ((List S104) × (List (List S174)) × Int × Int × (List Int)), o := f131.l9 k k xs6 a7 xs8 xs9 a10 a11 xs12, w := f131.l9.w }
def f131.step {R : Type} (k : Nat) (ret : ((Int × (List Int) × Int) ⊕ ((List S104) × (List (List S174)) × Int × (List Int) × Int)) → Option R) (xs1 : List S104) (xs2 : List (List S174)) (a3 : Int) (xs4 : List S207) : Option R :=
  if (decide ((((List.length xs4) : Nat) : Int) > (4096 : Int))) = true then
 ret (.inl ((0 : Int), ([] : List Int), (2 : Int)))
 else
 (f57 k xs1 xs2 a3).bind fun t5 => if (!t5) = true then
 ret (.inl ((0 : Int), ([] : List Int), (1 : Int)))
 else
 if (decide ((((List.length xs4) : Nat) : Int) > (60 : Int))) = true then
 ret (.inl ((0 : Int), ([] : List Int), (6 : Int)))
 else
 (f131.l9 k k xs4 (0 : Int) xs1 xs2 a3 (0 : Int) ([] : List Int)).bind (Sum.elim (fun t15 => ret (.inl (t15.2.2.2.2.1, t15.2.2.2.2.2.2, t15.1))) (fun t16 => (f181 k t16.1 t16.2.1 t16.2.2.1).bind fun t17 => ret (.inr (t17.1, t17.2.1, t17.2.2, t16.2.2.2.2, (0 : Int)))))
def f131 (k : Nat) (xs1 : List S104) (xs2 : List (List S174)) (a3 : Int) (xs4 : List S207) : Option ((Int × (List Int) × Int) ⊕ ((List S104) × (List (List S174)) × Int × (List Int) × Int)) := f131.step k some xs1 xs2 a3 xs4
def f131.w {R : Type} : ((Int × (List Int) × Int) ⊕ ((List S104) × (List (List S174)) × Int × (List Int) × Int)) → (Res env → Option R) → Option R := fun x K => Sum.elim (fun t20 => K ⟨.tup [.g [.s (.slice none 0 0), .s (.slice none 0 0), .s (.int .i64 t20.1)], .c (.own true 3 t20.2.1), .c (.s (.int .i64 t20.2.2))], [[], []]⟩) (fun t21 => K ⟨.tup [.g [.own true 104 t21.1, .own true 171 t21.2.1, .s (.int .i64 t21.2.2.1)], .c (.own true 3 t21.2.2.2.1), .c (.s (.int .i64 t21.2.2.2.2))], [[], []]⟩) x
theorem f131.wn (x : ((Int × (List Int) × Int) ⊕ ((List S104) × (List (List S174)) × Int × (List Int) × Int))) : ∃ res, ∀ {R : Type} (K : Res env → Option R), f131.w x K = K res := by
  rcases x with x | x <;> exact ⟨_, fun _ => rfl⟩
def f131.hd (k : Nat) (ps_ : List (P2 env)) : Cl env :=
  gC Cl.no ps_ fun p_ ps_ => qG Cl.no p_ fun cs_ => dM Cl.no 104 cs_ fun xs1 cs_ => dM Cl.no 171 cs_ fun xs2 cs_ => dI Cl.no cs_ fun a3 cs_ => gE Cl.no cs_ <| pM Cl.no 207 ps_ fun xs4 ps_ => gE Cl.no ps_ <| { α := (Int × (List Int) × Int) ⊕ ((List S104) × (List (List S174)) × Int × (List Int) × Int), o := f131 k xs1 xs2 a3 xs4, w := f131.w, nat := fun x _ => f131.wn x }
def f131.e (k : Nat) : Entry env := ⟨fun ps => f131.hd k (coer [[.rd 104, .rd 171, .no], [.rd 207]] ps), [], []⟩
def f131.X (k : Nat) : Ctx env := { C := lookE [(57, f57.e k), (180, f180.e k), (181, f181.e k)], L := lookE [(9, fun S => f131.l9.hd k S.ts S.m S.n)], J := lookE [], keep := lookD [(9, [1, 2, 4, 7, 8])], keepX := lookD [(9, [2, 4, 5, 6, 7])], span := lookN [(9, 608)], eff := fun n => memN n [13], prep := lookP [], prepB := lookP [(9, [.frzB 2 0 104, .frzB 2 1 171])], np := 0 }
theorem f131.l9.nat {R : Type} (k : Nat) (rec_) (g : _ → Option R) (xs6 a7 xs8 xs9 a10 a11 xs12) : (f131.l9.step k rec_ some xs6 a7 xs8 xs9 a10 a11 xs12).bind g = f131.l9.step k (fun xs6 a7 xs8 xs9 a10 a11 xs12 => (rec_ xs6 a7 xs8 xs9 a10 a11 xs12).bind g) g xs6 a7 xs8 xs9 a10 a11 xs12 := by
  simp only [f131.l9.step, bind_ite, bind_sum, Option.bind_assoc, Option.bind_some, Option.bind_none]
theorem f131.l9.good (k : Nat) (xs6 a7 xs8 xs9 a10 a11 xs12) : GoodL (f131.X k) (nthC 0 (loopsOf (bodyOf Try.f131))) (f131.l9.st xs6 a7 xs8 xs9 a10 a11 xs12) { α := _, o := f131.l9 k k xs6 a7 xs8 xs9 a10 a11 xs12, w := f131.l9.w } :=
  loop_good (ι := (List S207) × Int × (List S104) × (List (List S174)) × Int × Int × (List Int)) (α := ((Int × (List S104) × (List (List S174)) × Int × Int × (List Int) × (List Int)) ⊕ ((List S104) × (List (List S174)) × Int × Int × (List Int)))) (fun i => f131.l9.st i.1 i.2.1 i.2.2.1 i.2.2.2.1 i.2.2.2.2.1 i.2.2.2.2.2.1 i.2.2.2.2.2.2) (fun j i => f131.l9 k j i.1 i.2.1 i.2.2.1 i.2.2.2.1 i.2.2.2.2.1 i.2.2.2.2.2.1 i.2.2.2.2.2.2) f131.l9.w (fun rec_ ret i => f131.l9.step k (fun xs6 a7 xs8 xs9 a10 a11 xs12 => rec_ (xs6, a7, xs8, xs9, a10, a11, xs12)) ret i.1 i.2.1 i.2.2.1 i.2.2.2.1 i.2.2.2.2.1 i.2.2.2.2.2.1 i.2.2.2.2.2.2)
    (fun _ => rfl) (fun _ _ => rfl) (fun rec_ g i => f131.l9.nat k _ g i.1 i.2.1 i.2.2.1 i.2.2.2.1 i.2.2.2.2.1 i.2.2.2.2.2.1 i.2.2.2.2.2.2) (fun {R} i0 i rec_ K => by kernel_rfl) k (xs6, a7, xs8, xs9, a10, a11, xs12)
theorem f131.l9.all (k : Nat) (S : St env) : GoodL (f131.X k) (nthC 0 (loopsOf (bodyOf Try.f131))) S (f131.l9.hd k S.ts S.m S.n) := by
  obtain ⟨ts_, m_, n_⟩ := S
  show GoodL _ _ _ (f131.l9.hd k ts_ m_ n_)
  unfold f131.l9.hd
  have hg_ := f131.l9.good k
  exact rdL
theorem f131.nat {R : Type} (k : Nat) (g : _ → Option R) (xs1 xs2 a3 xs4) : f131.step k g xs1 xs2 a3 xs4 = (f131 k xs1 xs2 a3 xs4).bind g := by
  simp only [f131, f131.step, bind_ite, bind_sum, Option.bind_assoc, Option.bind_some, Option.bind_none]
theorem f131.ev (k : Nat) (xs1 : List S104) (xs2 : List (List S174)) (a3 : Int) (xs4 : List S207) : evF (f131.X k) (bodyOf Try.f131) Try.f131.ntmps Try.f131.results.toList [.g [.sl 104 xs1, .sl 171 xs2, .s (.int .i64 a3)], .v (.c (.sl 207 xs4))] = f131.step k (fun x => f131.w x some) xs1 xs2 a3 xs4 := by kernel_rfl
theorem f131.hok (k : Nat) : HOK (f131.X k) (bodyOf Try.f131) where
  l := allP_mem (by exact ⟨ls_of (h0 := fun S => f131.l9.hd k S.ts S.m S.n) (by kernel_rfl) (f131.l9.all k), trivial⟩)
  j := allP_mem (by exact trivial)
  q := allP_mem (by exact trivial)
theorem f131.sound0 (k : Nat) : SoundC env Try.prog 131 (f131.hd k) := by
  intro ps_
  show GoodC _ _ _ ps_ (f131.hd k ps_)
  unfold f131.hd
  have hF_ := fun_sound envOK (cs_sound _ (by exact ⟨⟨f57.sound k, f57.fnok⟩, ⟨f180.sound k, f180.fnok⟩, ⟨f181.sound k, f181.fnok⟩, trivial⟩)) (f131.hok k) Try.func131 rfl
  have hev_ := f131.ev k
  have hnat_ := fun g_ => f131.nat k (R := Res env) g_
  exact rdC
theorem f131.sound (k : Nat) : SoundC env Try.prog 131 (f131.e k).F := soundC_coer (f131.sound0 k) [[.rd 104, .rd 171, .no], [.rd 207]]
theorem f131.fnok : FnOK Try.prog 131 := fn_ok Try.func131 (by kernel_rfl) rfl
def f55.step {R : Type} (k : Nat) (ret : ((Int × (List Int) × Int × Int) ⊕ ((List S104) × (List (List S174)) × Int × (List Int) × Int × Int)) → Option R) (xs1 : List Int) (a2 : Int) (a3 : Int) : Option R :=
  (f129 k xs1 a2 a3).bind fun t4 => (f130 k t4.1 t4.2.1).bind (Sum.elim (fun t5 => (f132 k t4.2.2.1 t4.2.2.2.1 t4.2.2.2.2 (((List.length t4.2.1) : Nat) : Int)).bind fun t6 => (f131 k ([] : List S104) ([] : List (List S174)) t5.1 t6.1).bind (Sum.elim (fun t7 => ret (.inl (t7.1, t6.2.1, t6.2.2.1, t6.2.2.2))) (fun t8 => ret (.inr (t8.1, t8.2.1, t8.2.2.1, t6.2.1, t6.2.2.1, t6.2.2.2))))) (fun t9 => (f132 k t4.2.2.1 t4.2.2.2.1 t4.2.2.2.2 (((List.length t4.2.1) : Nat) : Int)).bind fun t10 => (f131 k t9.1 t9.2.1 t9.2.2.1 t10.1).bind (Sum.elim (fun t11 => ret (.inl (t11.1, t10.2.1, t10.2.2.1, t10.2.2.2))) (fun t12 => ret (.inr (t12.1, t12.2.1, t12.2.2.1, t10.2.1, t10.2.2.1, t10.2.2.2))))))
def f55 (k : Nat) (xs1 : List Int) (a2 : Int) (a3 : Int) : Option ((Int × (List Int) × Int × Int) ⊕ ((List S104) × (List (List S174)) × Int × (List Int) × Int × Int)) := f55.step k some xs1 a2 a3
def f55.w {R : Type} : ((Int × (List Int) × Int × Int) ⊕ ((List S104) × (List (List S174)) × Int × (List Int) × Int × Int)) → (Res env → Option R) → Option R := fun x K => Sum.elim (fun t13 => K ⟨.v (.g [.s (.slice none 0 0), .s (.slice none 0 0), .s (.int .i64 t13.1)]), [[.sl 5 t13.2.1, .s (.int .i64 t13.2.2.1), .s (.int .i64 t13.2.2.2)]]⟩) (fun t14 => K ⟨.v (.g [.own true 104 t14.1, .own true 171 t14.2.1, .s (.int .i64 t14.2.2.1)]), [[.sl 5 t14.2.2.2.1, .s (.int .i64 t14.2.2.2.2.1), .s (.int .i64 t14.2.2.2.2.2)]]⟩) x
theorem f55.wn (x : ((Int × (List Int) × Int × Int) ⊕ ((List S104) × (List (List S174)) × Int × (List Int) × Int × Int))) : ∃ res, ∀ {R : Type} (K : Res env → Option R), f55.w x K = K res := by
  rcases x with x | x <;> exact ⟨_, fun _ => rfl⟩
def f55.hd (k : Nat) (ps_ : List (P2 env)) : Cl env :=
  gC Cl.no ps_ fun p_ ps_ => qP Cl.no p_ fun cs_ => dM Cl.no 5 cs_ fun xs1 cs_ => dI Cl.no cs_ fun a2 cs_ => dI Cl.no cs_ fun a3 cs_ => gE Cl.no cs_ <| gE Cl.no ps_ <| { α := (Int × (List Int) × Int × Int) ⊕ ((List S104) × (List (List S174)) × Int × (List Int) × Int × Int), o := f55 k xs1 a2 a3, w := f55.w, nat := fun x _ => f55.wn x }
def f55.e (k : Nat) : Entry env := ⟨fun ps => f55.hd k (coer [[.rd 5, .no, .no]] ps), [], []⟩
def f55.X (k : Nat) : Ctx env := { C := lookE [(129, f129.e k), (130, f130.e k), (131, f131.e k), (132, f132.e k)], L := lookE [], J := lookE [], keep := lookD [], keepX := lookD [], span := lookN [], eff := fun n => memN n [3], prep := lookP [], np := 0 }
theorem f55.nat {R : Type} (k : Nat) (g : _ → Option R) (xs1 a2 a3) : f55.step k g xs1 a2 a3 = (f55 k xs1 a2 a3).bind g := by
  simp only [f55, f55.step, bind_ite, bind_sum, Option.bind_assoc, Option.bind_some, Option.bind_none]
theorem f55.ev (k : Nat) (xs1 : List Int) (a2 : Int) (a3 : Int) : evF (f55.X k) (bodyOf Try.f55) Try.f55.ntmps Try.f55.results.toList [.v (.ptr [.sl 5 xs1, .s (.int .i64 a2), .s (.int .i64 a3)])] = f55.step k (fun x => f55.w x some) xs1 a2 a3 := by kernel_rfl
theorem f55.hok (k : Nat) : HOK (f55.X k) (bodyOf Try.f55) where
  l := allP_mem (by exact trivial)
  j := allP_mem (by exact trivial)
  q := allP_mem (by exact trivial)
theorem f55.sound0 (k : Nat) : SoundC env Try.prog 55 (f55.hd k) := by
  intro ps_
  show GoodC _ _ _ ps_ (f55.hd k ps_)
  unfold f55.hd
  have hF_ := fun_sound envOK (cs_sound _ (by exact ⟨⟨f129.sound k, f129.fnok⟩, ⟨f130.sound k, f130.fnok⟩, ⟨f131.sound k, f131.fnok⟩, ⟨f132.sound k, f132.fnok⟩, trivial⟩)) (f55.hok k) Try.func55 rfl
  have hev_ := f55.ev k
  have hnat_ := fun g_ => f55.nat k (R := Res env) g_
  exact rdC
theorem f55.sound (k : Nat) : SoundC env Try.prog 55 (f55.e k).F := soundC_coer (f55.sound0 k) [[.rd 5, .no, .no]]
theorem f55.fnok : FnOK Try.prog 55 := fn_ok Try.func55 (by kernel_rfl) rfl
def f9.step {R : Type} (k : Nat) (ret : (Int ⊕ ((List S104) × (List (List S174)) × Int)) → Option R) (xs1 : List Int) : Option R :=
  (f54 k xs1).bind fun t2 => (f55 k t2.1 t2.2.1 t2.2.2).bind (Sum.elim (fun t3 => ret (.inl t3.1)) (fun t4 => ret (.inr (t4.1, t4.2.1, t4.2.2.1))))
def f9 (k : Nat) (xs1 : List Int) : Option (Int ⊕ ((List S104) × (List (List S174)) × Int)) := f9.step k some xs1
def f9.w {R : Type} : (Int ⊕ ((List S104) × (List (List S174)) × Int)) → (Res env → Option R) → Option R := fun x K => Sum.elim (fun t5 => K ⟨.v (.g [.s (.slice none 0 0), .s (.slice none 0 0), .s (.int .i64 t5)]), [[]]⟩) (fun t6 => K ⟨.v (.g [.own true 104 t6.1, .own true 171 t6.2.1, .s (.int .i64 t6.2.2)]), [[]]⟩) x
theorem f9.wn (x : (Int ⊕ ((List S104) × (List (List S174)) × Int))) : ∃ res, ∀ {R : Type} (K : Res env → Option R), f9.w x K = K res := by
  rcases x with x | x <;> exact ⟨_, fun _ => rfl⟩
def f9.hd (k : Nat) (ps_ : List (P2 env)) : Cl env :=
  pM Cl.no 5 ps_ fun xs1 ps_ => gE Cl.no ps_ <| { α := Int ⊕ ((List S104) × (List (List S174)) × Int), o := f9 k xs1, w := f9.w, nat := fun x _ => f9.wn x }
def f9.e (k : Nat) : Entry env := ⟨fun ps => f9.hd k (coer [[.rd 5]] ps), [], []⟩
def f9.X (k : Nat) : Ctx env := { C := lookE [(54, f54.e k), (55, f55.e k)], L := lookE [], J := lookE [], keep := lookD [], keepX := lookD [], span := lookN [], eff := fun n => memN n [], prep := lookP [], np := 0 }
theorem f9.nat {R : Type} (k : Nat) (g : _ → Option R) (xs1) : f9.step k g xs1 = (f9 k xs1).bind g := by
  simp only [f9, f9.step, bind_ite, bind_sum, Option.bind_assoc, Option.bind_some, Option.bind_none]
theorem f9.ev (k : Nat) (xs1 : List Int) : evF (f9.X k) (bodyOf Try.f9) Try.f9.ntmps Try.f9.results.toList [.v (.c (.sl 5 xs1))] = f9.step k (fun x => f9.w x some) xs1 := by kernel_rfl
theorem f9.hok (k : Nat) : HOK (f9.X k) (bodyOf Try.f9) where
  l := allP_mem (by exact trivial)
  j := allP_mem (by exact trivial)
  q := allP_mem (by exact trivial)
theorem f9.sound0 (k : Nat) : SoundC env Try.prog 9 (f9.hd k) := by
  intro ps_
  show GoodC _ _ _ ps_ (f9.hd k ps_)
  unfold f9.hd
  have hF_ := fun_sound envOK (cs_sound _ (by exact ⟨⟨f54.sound k, f54.fnok⟩, ⟨f55.sound k, f55.fnok⟩, trivial⟩)) (f9.hok k) Try.func9 rfl
  have hev_ := f9.ev k
  have hnat_ := fun g_ => f9.nat k (R := Res env) g_
  exact rdC
theorem f9.sound (k : Nat) : SoundC env Try.prog 9 (f9.e k).F := soundC_coer (f9.sound0 k) [[.rd 5]]
theorem f9.fnok : FnOK Try.prog 9 := fn_ok Try.func9 (by kernel_rfl) rfl
def f63.step {R : Type} (k : Nat) (ret : Bool → Option R) (a1 : Int) (a2 : Int) (a3 : Int) : Option R :=
  if (decide (a1 ≥ a2)) = true then
 ret (decide (a1 ≤ a3))
 else
 ret false
def f63 (k : Nat) (a1 : Int) (a2 : Int) (a3 : Int) : Option Bool := f63.step k some a1 a2 a3
def f63.w {R : Type} : Bool → (Res env → Option R) → Option R := fun t4 K => K ⟨.v (.c (.s (.bool t4))), [[], [], []]⟩
theorem f63.wn (x : Bool) : ∃ res, ∀ {R : Type} (K : Res env → Option R), f63.w x K = K res := by
  exact ⟨_, fun _ => rfl⟩
def f63.hd (k : Nat) (ps_ : List (P2 env)) : Cl env :=
  pI Cl.no ps_ fun a1 ps_ => pI Cl.no ps_ fun a2 ps_ => pI Cl.no ps_ fun a3 ps_ => gE Cl.no ps_ <| { α := Bool, o := f63 k a1 a2 a3, w := f63.w, nat := fun x _ => f63.wn x }
def f63.e (k : Nat) : Entry env := ⟨f63.hd k, [], []⟩
def f63.X (k : Nat) : Ctx env := { C := lookE [], L := lookE [], J := lookE [], keep := lookD [], keepX := lookD [], span := lookN [], eff := fun n => memN n [], prep := lookP [], np := 0 }
theorem f63.nat {R : Type} (k : Nat) (g : _ → Option R) (a1 a2 a3) : f63.step k g a1 a2 a3 = (f63 k a1 a2 a3).bind g := by
  simp only [f63, f63.step, bind_ite, bind_sum, Option.bind_assoc, Option.bind_some, Option.bind_none]
theorem f63.ev (k : Nat) (a1 : Int) (a2 : Int) (a3 : Int) : evF (f63.X k) (bodyOf Try.f63) Try.f63.ntmps Try.f63.results.toList [.v (.c (.s (.int .i64 a1))), .v (.c (.s (.int .i64 a2))), .v (.c (.s (.int .i64 a3)))] = f63.step k (fun x => f63.w x some) a1 a2 a3 := by kernel_rfl
theorem f63.hok (k : Nat) : HOK (f63.X k) (bodyOf Try.f63) where
  l := allP_mem (by exact trivial)
  j := allP_mem (by exact trivial)
  q := allP_mem (by exact trivial)
theorem f63.sound (k : Nat) : SoundC env Try.prog 63 ((f63.e k).F) := by
  intro ps_
  show GoodC _ _ _ ps_ (f63.hd k ps_)
  unfold f63.hd
  have hF_ := fun_sound envOK (cs_sound _ (by exact trivial)) (f63.hok k) Try.func63 rfl
  have hev_ := f63.ev k
  have hnat_ := fun g_ => f63.nat k (R := Res env) g_
  exact rdC
theorem f63.fnok : FnOK Try.prog 63 := fn_ok Try.func63 (by kernel_rfl) rfl
def f133.l5.step {R : Type} (k : Nat) (rec_ : Int → (List S104) → Int → Int → Bool → Bool → Bool → Bool → Bool → Bool → Bool → Bool → Bool → Bool → Bool → Bool → Bool → Bool → Bool → Bool → Bool → Bool → Bool → Bool → Bool → Bool → Bool → Bool → Bool → Option R) (ret : (Bool ⊕ (Unit)) → Option R) (a4 : Int) (xs5 : List S104) (a6 : Int) (a7 : Int) (b8 : Bool) (b9 : Bool) (b10 : Bool) (b11 : Bool) (b12 : Bool) (b13 : Bool) (b14 : Bool) (b15 : Bool) (b16 : Bool) (b17 : Bool) (b18 : Bool) (b19 : Bool) (b20 : Bool) (b21 : Bool) (b22 : Bool) (b23 : Bool) (b24 : Bool) (b25 : Bool) (b26 : Bool) (b27 : Bool) (b28 : Bool) (b29 : Bool) (b30 : Bool) (b31 : Bool) (b32 : Bool) : Option R :=
  if (decide (a7 < a6)) = true then
 if (0 : Int) ≤ a7 then
 if a7 < ((List.length xs5 : Nat) : Int) then
 (f63 k (List.getD xs5 (Int.toNat a7) (⟨(0 : Int), (0 : Int), (0 : Int), false⟩ : S104)).f0 (0 : Int) (IntKind.i64.wrap (a4 - (1 : Int)))).bind fun t33 => if (!t33) = false then
 (f63 k (List.getD xs5 (Int.toNat a7) (⟨(0 : Int), (0 : Int), (0 : Int), false⟩ : S104)).f1 (0 : Int) (IntKind.i64.wrap (a4 - (1 : Int)))).bind fun t34 => if (!t34) = false then
 if (decide ((List.getD xs5 (Int.toNat a7) (⟨(0 : Int), (0 : Int), (0 : Int), false⟩ : S104)).f0 = (List.getD xs5 (Int.toNat a7) (⟨(0 : Int), (0 : Int), (0 : Int), false⟩ : S104)).f1)) = false then
 (f63 k (List.getD xs5 (Int.toNat a7) (⟨(0 : Int), (0 : Int), (0 : Int), false⟩ : S104)).f2 (1 : Int) (16 : Int)).bind fun t35 => if (!t35) = false then
 if (0 : Int) ≤ (List.getD xs5 (Int.toNat a7) (⟨(0 : Int), (0 : Int), (0 : Int), false⟩ : S104)).f0 then
 if (List.getD xs5 (Int.toNat a7) (⟨(0 : Int), (0 : Int), (0 : Int), false⟩ : S104)).f0 < (5 : Int) then
 if (0 : Int) ≤ (List.getD xs5 (Int.toNat a7) (⟨(0 : Int), (0 : Int), (0 : Int), false⟩ : S104)).f1 then
 if (List.getD xs5 (Int.toNat a7) (⟨(0 : Int), (0 : Int), (0 : Int), false⟩ : S104)).f1 < (5 : Int) then
 if (((Int.toNat (List.getD xs5 (Int.toNat a7) (⟨(0 : Int), (0 : Int), (0 : Int), false⟩ : S104)).f0) * 5) + ((Int.toNat (List.getD xs5 (Int.toNat a7) (⟨(0 : Int), (0 : Int), (0 : Int), false⟩ : S104)).f1) * 1)) < 25 then
 if (List.getD [b8, b9, b10, b11, b12, b13, b14, b15, b16, b17, b18, b19, b20, b21, b22, b23, b24, b25, b26, b27, b28, b29, b30, b31, b32] (((Int.toNat (List.getD xs5 (Int.toNat a7) (⟨(0 : Int), (0 : Int), (0 : Int), false⟩ : S104)).f0) * 5) + ((Int.toNat (List.getD xs5 (Int.toNat a7) (⟨(0 : Int), (0 : Int), (0 : Int), false⟩ : S104)).f1) * 1)) false) = true then
 ret (.inl false)
 else
 if (0 : Int) ≤ (List.getD xs5 (Int.toNat a7) (⟨(0 : Int), (0 : Int), (0 : Int), false⟩ : S104)).f0 then
 if (List.getD xs5 (Int.toNat a7) (⟨(0 : Int), (0 : Int), (0 : Int), false⟩ : S104)).f0 < (5 : Int) then
 if (0 : Int) ≤ (List.getD xs5 (Int.toNat a7) (⟨(0 : Int), (0 : Int), (0 : Int), false⟩ : S104)).f1 then
 if (List.getD xs5 (Int.toNat a7) (⟨(0 : Int), (0 : Int), (0 : Int), false⟩ : S104)).f1 < (5 : Int) then
 if (((Int.toNat (List.getD xs5 (Int.toNat a7) (⟨(0 : Int), (0 : Int), (0 : Int), false⟩ : S104)).f0) * 5) + ((Int.toNat (List.getD xs5 (Int.toNat a7) (⟨(0 : Int), (0 : Int), (0 : Int), false⟩ : S104)).f1) * 1)) < 25 then
 if (0 : Int) ≤ (List.getD xs5 (Int.toNat a7) (⟨(0 : Int), (0 : Int), (0 : Int), false⟩ : S104)).f1 then
 if (List.getD xs5 (Int.toNat a7) (⟨(0 : Int), (0 : Int), (0 : Int), false⟩ : S104)).f1 < (5 : Int) then
 if (0 : Int) ≤ (List.getD xs5 (Int.toNat a7) (⟨(0 : Int), (0 : Int), (0 : Int), false⟩ : S104)).f0 then
 if (List.getD xs5 (Int.toNat a7) (⟨(0 : Int), (0 : Int), (0 : Int), false⟩ : S104)).f0 < (5 : Int) then
 if (((Int.toNat (List.getD xs5 (Int.toNat a7) (⟨(0 : Int), (0 : Int), (0 : Int), false⟩ : S104)).f1) * 5) + ((Int.toNat (List.getD xs5 (Int.toNat a7) (⟨(0 : Int), (0 : Int), (0 : Int), false⟩ : S104)).f0) * 1)) < 25 then
 (let l1_ := (List.set [b8, b9, b10, b11, b12, b13, b14, b15, b16, b17, b18, b19, b20, b21, b22, b23, b24, b25, b26, b27, b28, b29, b30, b31, b32] (((Int.toNat (List.getD xs5 (Int.toNat a7) (⟨(0 : Int), (0 : Int), (0 : Int), false⟩ : S104)).f0) * 5) + ((Int.toNat (List.getD xs5 (Int.toNat a7) (⟨(0 : Int), (0 : Int), (0 : Int), false⟩ : S104)).f1) * 1)) true); let l2_ := (List.set [(List.getD l1_ 0 false), (List.getD l1_ 1 false), (List.getD l1_ 2 false), (List.getD l1_ 3 false), (List.getD l1_ 4 false), (List.getD l1_ 5 false), (List.getD l1_ 6 false), (List.getD l1_ 7 false), (List.getD l1_ 8 false), (List.getD l1_ 9 false), (List.getD l1_ 10 false), (List.getD l1_ 11 false), (List.getD l1_ 12 false), (List.getD l1_ 13 false), (List.getD l1_ 14 false), (List.getD l1_ 15 false), (List.getD l1_ 16 false), (List.getD l1_ 17 false), (List.getD l1_ 18 false), (List.getD l1_ 19 false), (List.getD l1_ 20 false), (List.getD l1_ 21 false), (List.getD l1_ 22 false), (List.getD l1_ 23 false), (List.getD l1_ 24 false)] (((Int.toNat (List.getD xs5 (Int.toNat a7) (⟨(0 : Int), (0 : Int), (0 : Int), false⟩ : S104)).f1) * 5) + ((Int.toNat (List.getD xs5 (Int.toNat a7) (⟨(0 : Int), (0 : Int), (0 : Int), false⟩ : S104)).f0) * 1)) true); rec_ a4 xs5 a6 (IntKind.i64.wrap (a7 + (1 : Int))) (List.getD l2_ 0 false) (List.getD l2_ 1 false) (List.getD l2_ 2 false) (List.getD l2_ 3 false) (List.getD l2_ 4 false) (List.getD l2_ 5 false) (List.getD l2_ 6 false) (List.getD l2_ 7 false) (List.getD l2_ 8 false) (List.getD l2_ 9 false) (List.getD l2_ 10 false) (List.getD l2_ 11 false) (List.getD l2_ 12 false) (List.getD l2_ 13 false) (List.getD l2_ 14 false) (List.getD l2_ 15 false) (List.getD l2_ 16 false) (List.getD l2_ 17 false) (List.getD l2_ 18 false) (List.getD l2_ 19 false) (List.getD l2_ 20 false) (List.getD l2_ 21 false) (List.getD l2_ 22 false) (List.getD l2_ 23 false) (List.getD l2_ 24 false))
 else none
 else none
 else none
 else none
 else none
 else none
 else none
 else none
 else none
 else none
 else none
 else none
 else none
 else none
 else none
 else
 ret (.inl false)
 else
 ret (.inl false)
 else
 ret (.inl false)
 else
 ret (.inl false)
 else none
 else none
 else
 ret (.inr ())
def f133.l5 (k : Nat) : Nat → Int → (List S104) → Int → Int → Bool → Bool → Bool → Bool → Bool → Bool → Bool → Bool → Bool → Bool → Bool → Bool → Bool → Bool → Bool → Bool → Bool → Bool → Bool → Bool → Bool → Bool → Bool → Bool → Bool → Option (Bool ⊕ (Unit))
  | 0, _, _, _, _, _, _, _, _, _, _, _, _, _, _, _, _, _, _, _, _, _, _, _, _, _, _, _, _, _ => none
  | j + 1, a4, xs5, a6, a7, b8, b9, b10, b11, b12, b13, b14, b15, b16, b17, b18, b19, b20, b21, b22, b23, b24, b25, b26, b27, b28, b29, b30, b31, b32 => f133.l5.step k (fun a4 xs5 a6 a7 b8 b9 b10 b11 b12 b13 b14 b15 b16 b17 b18 b19 b20 b21 b22 b23 b24 b25 b26 b27 b28 b29 b30 b31 b32 => f133.l5 k j a4 xs5 a6 a7 b8 b9 b10 b11 b12 b13 b14 b15 b16 b17 b18 b19 b20 b21 b22 b23 b24 b25 b26 b27 b28 b29 b30 b31 b32) some a4 xs5 a6 a7 b8 b9 b10 b11 b12 b13 b14 b15 b16 b17 b18 b19 b20 b21 b22 b23 b24 b25 b26 b27 b28 b29 b30 b31 b32
def f133.l5.w {R : Type} : (Bool ⊕ (Unit)) → (Exit → St env → Option R) → Option R := fun x K => Sum.elim (fun t38 => K .ret ⟨fullT [4] 0 71 [.v (.c (.s (.bool t38)))], [], 1138⟩) (fun t39 => K (.exit 0) ⟨fullT [] 0 71 [], [], 1138⟩) x
def f133.l5.st (a4 : Int) (xs5 : List S104) (a6 : Int) (a7 : Int) (b8 : Bool) (b9 : Bool) (b10 : Bool) (b11 : Bool) (b12 : Bool) (b13 : Bool) (b14 : Bool) (b15 : Bool) (b16 : Bool) (b17 : Bool) (b18 : Bool) (b19 : Bool) (b20 : Bool) (b21 : Bool) (b22 : Bool) (b23 : Bool) (b24 : Bool) (b25 : Bool) (b26 : Bool) (b27 : Bool) (b28 : Bool) (b29 : Bool) (b30 : Bool) (b31 : Bool) (b32 : Bool) : St env := ⟨fullT [0, 5, 16, 17, 18] 0 71 [.v (.c (.s (.int .i64 a4))), .v (.c (.bp 146 0)), .v (.c (.imm 104 xs5)), .v (.c (.s (.int .i64 a6))), .v (.c (.s (.int .i64 a7)))], [(146, .box [.s (.bool b8), .s (.bool b9), .s (.bool b10), .s (.bool b11), .s (.bool b12), .s (.bool b13), .s (.bool b14), .s (.bool b15), .s (.bool b16), .s (.bool b17), .s (.bool b18), .s (.bool b19), .s (.bool b20), .s (.bool b21), .s (.bool b22), .s (.bool b23), .s (.bool b24), .s (.bool b25), .s (.bool b26), .s (.bool b27), .s (.bool b28), .s (.bool b29), .s (.bool b30), .s (.bool b31), .s (.bool b32)])], 210⟩
def f133.l5.hd (k : Nat) (ts_ : List (AV env)) (mm_ : Mem env) (n_ : Nat) : LCl env :=
  gTs Ln [0, 5, 16, 17, 18] 71 ts_ fun l_ => tI Ln l_ fun a4 l_ => tP Ln 146 l_ fun l_ => tM Ln 104 l_ fun xs5 l_ => tI Ln l_ fun a6 l_ => tI Ln l_ fun a7 l_ => gE Ln l_ <| mBox Ln 146 mm_ fun c_ m_ => cB Ln c_ fun b8 c_ => cB Ln c_ fun b9 c_ => cB Ln c_ fun b10 c_ => cB Ln c_ fun b11 c_ => cB Ln c_ fun b12 c_ => cB Ln c_ fun b13 c_ => cB Ln c_ fun b14 c_ => cB Ln c_ fun b15 c_ => cB Ln c_ fun b16 c_ => cB Ln c_ fun b17 c_ => cB Ln c_ fun b18 c_ => cB Ln c_ fun b19 c_ => cB Ln c_ fun b20 c_ => cB Ln c_ fun b21 c_ => cB Ln c_ fun b22 c_ => cB Ln c_ fun b23 c_ => cB Ln c_ fun b24 c_ => cB Ln c_ fun b25 c_ => cB Ln c_ fun b26 c_ => cB Ln c_ fun b27 c_ => cB Ln c_ fun b28 c_ => cB Ln c_ fun b29 c_ => cB Ln c_ fun b30 c_ => cB Ln c_ fun b31 c_ => cB Ln c_ fun b32 c_ => gE Ln c_ <| gE Ln m_ <| gN Ln 210 n_ { α := Bool ⊕ (Unit), o := f133.l5 k k a4 xs5 a6 a7 b8 b9 b10 b11 b12 b13 b14 b15 b16 b17 b18 b19 b20 b21 b22 b23 b24 b25 b26 b27 b28 b29 b30 b31 b32, w := f133.l5.w }
def f133.step {R : Type} (k : Nat) (ret : Bool → Option R) (a1 : Int) (xs2 : List S104) : Option R :=
  (f63 k a1 (1 : Int) (5 : Int)).bind fun t3 => if (!t3) = false then
 if (decide ((((List.length xs2) : Nat) : Int) > (8 : Int))) = true then
 ret false
 else
 (f133.l5 k k a1 xs2 (((List.length xs2) : Nat) : Int) (0 : Int) false false false false false false false false false false false false false false false false false false false false false false false false false).bind (Sum.elim (fun t36 => ret t36) (fun t37 => ret true))
 else
 ret false
def f133 (k : Nat) (a1 : Int) (xs2 : List S104) : Option Bool := f133.step k some a1 xs2
def f133.w {R : Type} : Bool → (Res env → Option R) → Option R := fun t40 K => K ⟨.v (.c (.s (.bool t40))), [[], []]⟩
theorem f133.wn (x : Bool) : ∃ res, ∀ {R : Type} (K : Res env → Option R), f133.w x K = K res := by
  exact ⟨_, fun _ => rfl⟩
def f133.hd (k : Nat) (ps_ : List (P2 env)) : Cl env :=
  pI Cl.no ps_ fun a1 ps_ => pM Cl.no 104 ps_ fun xs2 ps_ => gE Cl.no ps_ <| { α := Bool, o := f133 k a1 xs2, w := f133.w, nat := fun x _ => f133.wn x }
def f133.e (k : Nat) : Entry env := ⟨fun ps => f133.hd k (coer [[.no], [.rd 104]] ps), [], []⟩
def f133.X (k : Nat) : Ctx env := { C := lookE [(63, f63.e k)], L := lookE [(5, fun S => f133.l5.hd k S.ts S.m S.n)], J := lookE [], keep := lookD [(5, [0, 5, 16, 17, 18])], keepX := lookD [(5, [4])], span := lookN [(5, 928)], eff := fun n => memN n [9], prep := lookP [], np := 0 }
theorem f133.l5.nat {R : Type} (k : Nat) (rec_) (g : _ → Option R) (a4 xs5 a6 a7 b8 b9 b10 b11 b12 b13 b14 b15 b16 b17 b18 b19 b20 b21 b22 b23 b24 b25 b26 b27 b28 b29 b30 b31 b32) : (f133.l5.step k rec_ some a4 xs5 a6 a7 b8 b9 b10 b11 b12 b13 b14 b15 b16 b17 b18 b19 b20 b21 b22 b23 b24 b25 b26 b27 b28 b29 b30 b31 b32).bind g = f133.l5.step k (fun a4 xs5 a6 a7 b8 b9 b10 b11 b12 b13 b14 b15 b16 b17 b18 b19 b20 b21 b22 b23 b24 b25 b26 b27 b28 b29 b30 b31 b32 => (rec_ a4 xs5 a6 a7 b8 b9 b10 b11 b12 b13 b14 b15 b16 b17 b18 b19 b20 b21 b22 b23 b24 b25 b26 b27 b28 b29 b30 b31 b32).bind g) g a4 xs5 a6 a7 b8 b9 b10 b11 b12 b13 b14 b15 b16 b17 b18 b19 b20 b21 b22 b23 b24 b25 b26 b27 b28 b29 b30 b31 b32 := by
  simp only [f133.l5.step, bind_ite, bind_sum, Option.bind_assoc, Option.bind_some, Option.bind_none]
theorem f133.l5.good (k : Nat) (a4 xs5 a6 a7 b8 b9 b10 b11 b12 b13 b14 b15 b16 b17 b18 b19 b20 b21 b22 b23 b24 b25 b26 b27 b28 b29 b30 b31 b32) : GoodL (f133.X k) (nthC 0 (loopsOf (bodyOf Try.f133))) (f133.l5.st a4 xs5 a6 a7 b8 b9 b10 b11 b12 b13 b14 b15 b16 b17 b18 b19 b20 b21 b22 b23 b24 b25 b26 b27 b28 b29 b30 b31 b32) { α := _, o := f133.l5 k k a4 xs5 a6 a7 b8 b9 b10 b11 b12 b13 b14 b15 b16 b17 b18 b19 b20 b21 b22 b23 b24 b25 b26 b27 b28 b29 b30 b31 b32, w := f133.l5.w } :=
  loop_good (ι := Int × (List S104) × Int × Int × Bool × Bool × Bool × Bool × Bool × Bool × Bool × Bool × Bool × Bool × Bool × Bool × Bool × Bool × Bool × Bool × Bool × Bool × Bool × Bool × Bool × Bool × Bool × Bool × Bool) (α := (Bool ⊕ (Unit))) (fun i => let i_a := i.2.2.2.2.2.2.2.2; let i_b := i_a.2.2.2.2.2.2.2.2; let i_c := i_b.2.2.2.2.2.2.2.2; f133.l5.st i.1 i.2.1 i.2.2.1 i.2.2.2.1 i.2.2.2.2.1 i.2.2.2.2.2.1 i.2.2.2.2.2.2.1 i.2.2.2.2.2.2.2.1 i_a.1 i_a.2.1 i_a.2.2.1 i_a.2.2.2.1 i_a.2.2.2.2.1 i_a.2.2.2.2.2.1 i_a.2.2.2.2.2.2.1 i_a.2.2.2.2.2.2.2.1 i_b.1 i_b.2.1 i_b.2.2.1 i_b.2.2.2.1 i_b.2.2.2.2.1 i_b.2.2.2.2.2.1 i_b.2.2.2.2.2.2.1 i_b.2.2.2.2.2.2.2.1 i_c.1 i_c.2.1 i_c.2.2.1 i_c.2.2.2.1 i_c.2.2.2.2) (fun j i => let i_a := i.2.2.2.2.2.2.2.2; let i_b := i_a.2.2.2.2.2.2.2.2; let i_c := i_b.2.2.2.2.2.2.2.2; f133.l5 k j i.1 i.2.1 i.2.2.1 i.2.2.2.1 i.2.2.2.2.1 i.2.2.2.2.2.1 i.2.2.2.2.2.2.1 i.2.2.2.2.2.2.2.1 i_a.1 i_a.2.1 i_a.2.2.1 i_a.2.2.2.1 i_a.2.2.2.2.1 i_a.2.2.2.2.2.1 i_a.2.2.2.2.2.2.1 i_a.2.2.2.2.2.2.2.1 i_b.1 i_b.2.1 i_b.2.2.1 i_b.2.2.2.1 i_b.2.2.2.2.1 i_b.2.2.2.2.2.1 i_b.2.2.2.2.2.2.1 i_b.2.2.2.2.2.2.2.1 i_c.1 i_c.2.1 i_c.2.2.1 i_c.2.2.2.1 i_c.2.2.2.2) f133.l5.w (fun rec_ ret i => let i_a := i.2.2.2.2.2.2.2.2; let i_b := i_a.2.2.2.2.2.2.2.2; let i_c := i_b.2.2.2.2.2.2.2.2; f133.l5.step k (fun a4 xs5 a6 a7 b8 b9 b10 b11 b12 b13 b14 b15 b16 b17 b18 b19 b20 b21 b22 b23 b24 b25 b26 b27 b28 b29 b30 b31 b32 => rec_ (a4, xs5, a6, a7, b8, b9, b10, b11, b12, b13, b14, b15, b16, b17, b18, b19, b20, b21, b22, b23, b24, b25, b26, b27, b28, b29, b30, b31, b32)) ret i.1 i.2.1 i.2.2.1 i.2.2.2.1 i.2.2.2.2.1 i.2.2.2.2.2.1 i.2.2.2.2.2.2.1 i.2.2.2.2.2.2.2.1 i_a.1 i_a.2.1 i_a.2.2.1 i_a.2.2.2.1 i_a.2.2.2.2.1 i_a.2.2.2.2.2.1 i_a.2.2.2.2.2.2.1 i_a.2.2.2.2.2.2.2.1 i_b.1 i_b.2.1 i_b.2.2.1 i_b.2.2.2.1 i_b.2.2.2.2.1 i_b.2.2.2.2.2.1 i_b.2.2.2.2.2.2.1 i_b.2.2.2.2.2.2.2.1 i_c.1 i_c.2.1 i_c.2.2.1 i_c.2.2.2.1 i_c.2.2.2.2)
    (fun _ => rfl) (fun _ _ => rfl) (fun rec_ g i => let i_a := i.2.2.2.2.2.2.2.2; let i_b := i_a.2.2.2.2.2.2.2.2; let i_c := i_b.2.2.2.2.2.2.2.2; f133.l5.nat k _ g i.1 i.2.1 i.2.2.1 i.2.2.2.1 i.2.2.2.2.1 i.2.2.2.2.2.1 i.2.2.2.2.2.2.1 i.2.2.2.2.2.2.2.1 i_a.1 i_a.2.1 i_a.2.2.1 i_a.2.2.2.1 i_a.2.2.2.2.1 i_a.2.2.2.2.2.1 i_a.2.2.2.2.2.2.1 i_a.2.2.2.2.2.2.2.1 i_b.1 i_b.2.1 i_b.2.2.1 i_b.2.2.2.1 i_b.2.2.2.2.1 i_b.2.2.2.2.2.1 i_b.2.2.2.2.2.2.1 i_b.2.2.2.2.2.2.2.1 i_c.1 i_c.2.1 i_c.2.2.1 i_c.2.2.2.1 i_c.2.2.2.2) (fun {R} i0 i rec_ K => by kernel_rfl) k (a4, xs5, a6, a7, b8, b9, b10, b11, b12, b13, b14, b15, b16, b17, b18, b19, b20, b21, b22, b23, b24, b25, b26, b27, b28, b29, b30, b31, b32)
theorem f133.l5.all (k : Nat) (S : St env) : GoodL (f133.X k) (nthC 0 (loopsOf (bodyOf Try.f133))) S (f133.l5.hd k S.ts S.m S.n) := by
  obtain ⟨ts_, m_, n_⟩ := S
  show GoodL _ _ _ (f133.l5.hd k ts_ m_ n_)
  unfold f133.l5.hd
  have hg_ := f133.l5.good k
  exact rdL
theorem f133.nat {R : Type} (k : Nat) (g : _ → Option R) (a1 xs2) : f133.step k g a1 xs2 = (f133 k a1 xs2).bind g := by
  simp only [f133, f133.step, bind_ite, bind_sum, Option.bind_assoc, Option.bind_some, Option.bind_none]
theorem f133.ev (k : Nat) (a1 : Int) (xs2 : List S104) : evF (f133.X k) (bodyOf Try.f133) Try.f133.ntmps Try.f133.results.toList [.v (.c (.s (.int .i64 a1))), .v (.c (.sl 104 xs2))] = f133.step k (fun x => f133.w x some) a1 xs2 := by kernel_rfl
theorem f133.hok (k : Nat) : HOK (f133.X k) (bodyOf Try.f133) where
  l := allP_mem (by exact ⟨ls_of (h0 := fun S => f133.l5.hd k S.ts S.m S.n) (by kernel_rfl) (f133.l5.all k), trivial⟩)
  j := allP_mem (by exact trivial)
  q := allP_mem (by exact trivial)
theorem f133.sound0 (k : Nat) : SoundC env Try.prog 133 (f133.hd k) := by
  intro ps_
  show GoodC _ _ _ ps_ (f133.hd k ps_)
  unfold f133.hd
  have hF_ := fun_sound envOK (cs_sound _ (by exact ⟨⟨f63.sound k, f63.fnok⟩, trivial⟩)) (f133.hok k) Try.func133 rfl
  have hev_ := f133.ev k
  have hnat_ := fun g_ => f133.nat k (R := Res env) g_
  exact rdC
theorem f133.sound (k : Nat) : SoundC env Try.prog 133 (f133.e k).F := soundC_coer (f133.sound0 k) [[.no], [.rd 104]]
theorem f133.fnok : FnOK Try.prog 133 := fn_ok Try.func133 (by kernel_rfl) rfl
def f198.step {R : Type} (k : Nat) (ret : Bool → Option R) (a1 : Int) (a2 : Int) (a3 : Int) (b4 : Bool) (a5 : Int) (a6 : Int) : Option R :=
  if (decide (a1 = a5)) = true then
 if (decide (a2 = a6)) = false then
 if (decide (a1 = a6)) = true then
 ret (decide (a2 = a5))
 else
 ret false
 else
 ret true
 else
 if (decide (a1 = a6)) = true then
 ret (decide (a2 = a5))
 else
 ret false
def f198 (k : Nat) (a1 : Int) (a2 : Int) (a3 : Int) (b4 : Bool) (a5 : Int) (a6 : Int) : Option Bool := f198.step k some a1 a2 a3 b4 a5 a6
def f198.w {R : Type} : Bool → (Res env → Option R) → Option R := fun t7 K => K ⟨.v (.c (.s (.bool t7))), [[], [], []]⟩
theorem f198.wn (x : Bool) : ∃ res, ∀ {R : Type} (K : Res env → Option R), f198.w x K = K res := by
  exact ⟨_, fun _ => rfl⟩
def f198.hd (k : Nat) (ps_ : List (P2 env)) : Cl env :=
  gC Cl.no ps_ fun p_ ps_ => qG Cl.no p_ fun cs_ => dI Cl.no cs_ fun a1 cs_ => dI Cl.no cs_ fun a2 cs_ => dI Cl.no cs_ fun a3 cs_ => dB Cl.no cs_ fun b4 cs_ => gE Cl.no cs_ <| gC Cl.no ps_ fun p_ ps_ => qRo Cl.no 3 p_ fun a5 => gC Cl.no ps_ fun p_ ps_ => qRo Cl.no 3 p_ fun a6 => gE Cl.no ps_ <| { α := Bool, o := f198 k a1 a2 a3 b4 a5 a6, w := f198.w, nat := fun x _ => f198.wn x }
def f198.e (k : Nat) : Entry env := ⟨f198.hd k, [], [3, 3]⟩
def f198.X (k : Nat) : Ctx env := { C := lookE [], L := lookE [], J := lookE [], keep := lookD [], keepX := lookD [], span := lookN [], eff := fun n => memN n [], prep := lookP [], np := 0 }
theorem f198.nat {R : Type} (k : Nat) (g : _ → Option R) (a1 a2 a3 b4 a5 a6) : f198.step k g a1 a2 a3 b4 a5 a6 = (f198 k a1 a2 a3 b4 a5 a6).bind g := by
  simp only [f198, f198.step, bind_ite, bind_sum, Option.bind_assoc, Option.bind_some, Option.bind_none]
theorem f198.ev (k : Nat) (a1 : Int) (a2 : Int) (a3 : Int) (b4 : Bool) (a5 : Int) (a6 : Int) : evF (f198.X k) (bodyOf Try.f198) Try.f198.ntmps Try.f198.results.toList [.g [.s (.int .i64 a1), .s (.int .i64 a2), .s (.int .i64 a3), .s (.bool b4)], .v (.ro 3 a5), .v (.ro 3 a6)] = f198.step k (fun x => f198.w x some) a1 a2 a3 b4 a5 a6 := by kernel_rfl
theorem f198.hok (k : Nat) : HOK (f198.X k) (bodyOf Try.f198) where
  l := allP_mem (by exact trivial)
  j := allP_mem (by exact trivial)
  q := allP_mem (by exact trivial)
theorem f198.sound (k : Nat) : SoundC env Try.prog 198 ((f198.e k).F) := by
  intro ps_
  show GoodC _ _ _ ps_ (f198.hd k ps_)
  unfold f198.hd
  have hF_ := fun_sound envOK (cs_sound _ (by exact trivial)) (f198.hok k) Try.func198 rfl
  have hev_ := f198.ev k
  have hnat_ := fun g_ => f198.nat k (R := Res env) g_
  exact rdC
theorem f198.fnok : FnOK Try.prog 198 := fn_ok Try.func198 (by kernel_rfl) rfl
def f197.l2.step {R : Type} (k : Nat) (rec_ : (List S104) → Int → Int → Int → Int → Option R) (ret : (Int ⊕ (Unit)) → Option R) (xs4 : List S104) (a5 : Int) (a6 : Int) (a7 : Int) (a8 : Int) : Option R :=
  if (decide (a8 < a7)) = true then
 if (0 : Int) ≤ a8 then
 if a8 < ((List.length xs4 : Nat) : Int) then
 (f198 k (List.getD xs4 (Int.toNat a8) (⟨(0 : Int), (0 : Int), (0 : Int), false⟩ : S104)).f0 (List.getD xs4 (Int.toNat a8) (⟨(0 : Int), (0 : Int), (0 : Int), false⟩ : S104)).f1 (List.getD xs4 (Int.toNat a8) (⟨(0 : Int), (0 : Int), (0 : Int), false⟩ : S104)).f2 (List.getD xs4 (Int.toNat a8) (⟨(0 : Int), (0 : Int), (0 : Int), false⟩ : S104)).f3 a5 a6).bind fun t9 => if t9 = true then
 ret (.inl a8)
 else
 rec_ xs4 a5 a6 a7 (IntKind.i64.wrap (a8 + (1 : Int)))
 else none
 else none
 else
 ret (.inr ())
def f197.l2 (k : Nat) : Nat → (List S104) → Int → Int → Int → Int → Option (Int ⊕ (Unit))
  | 0, _, _, _, _, _ => none
  | j + 1, xs4, a5, a6, a7, a8 => f197.l2.step k (fun xs4 a5 a6 a7 a8 => f197.l2 k j xs4 a5 a6 a7 a8) some xs4 a5 a6 a7 a8
def f197.l2.w {R : Type} : (Int ⊕ (Unit)) → (Exit → St env → Option R) → Option R := fun x K => Sum.elim (fun t12 => K .ret ⟨fullT [4] 0 19 [.v (.c (.s (.int .i64 t12)))], [], 274⟩) (fun t13 => K (.exit 0) ⟨fullT [] 0 19 [], [], 274⟩) x
def f197.l2.st (xs4 : List S104) (a5 : Int) (a6 : Int) (a7 : Int) (a8 : Int) : St env := ⟨fullT [0, 1, 7, 8] 0 19 [.v (.c (.imm 104 xs4)), .v (.c (.fnp 198 [⟨3, a5⟩, ⟨3, a6⟩])), .v (.c (.s (.int .i64 a7))), .v (.c (.s (.int .i64 a8)))], [], 66⟩
def f197.l2.hd (k : Nat) (ts_ : List (AV env)) (mm_ : Mem env) (n_ : Nat) : LCl env :=
  gTs Ln [0, 1, 7, 8] 19 ts_ fun l_ => tM Ln 104 l_ fun xs4 l_ => gV Ln l_ fun a_ l_ => rFnp Ln 198 a_ fun sg_ => sigL Ln 3 sg_ fun a5 sg_ => sigL Ln 3 sg_ fun a6 sg_ => gE Ln sg_ <| tI Ln l_ fun a7 l_ => tI Ln l_ fun a8 l_ => gE Ln l_ <| gE Ln mm_ <| gN Ln 66 n_ { α := Int ⊕ (Unit), o := f197.l2 k k xs4 a5 a6 a7 a8, w := f197.l2.w }
def f197.step {R : Type} (k : Nat) (ret : Int → Option R) (xs1 : List S104) (a2 : Int) (a3 : Int) : Option R :=
  (f197.l2 k k xs1 a2 a3 (((List.length xs1) : Nat) : Int) (0 : Int)).bind (Sum.elim (fun t10 => ret t10) (fun t11 => ret (-1 : Int)))
def f197 (k : Nat) (xs1 : List S104) (a2 : Int) (a3 : Int) : Option Int := f197.step k some xs1 a2 a3
def f197.w {R : Type} : Int → (Res env → Option R) → Option R := fun t14 K => K ⟨.v (.c (.s (.int .i64 t14))), [[], []]⟩
theorem f197.wn (x : Int) : ∃ res, ∀ {R : Type} (K : Res env → Option R), f197.w x K = K res := by
  exact ⟨_, fun _ => rfl⟩
def f197.hd (k : Nat) (ps_ : List (P2 env)) : Cl env :=
  pM Cl.no 104 ps_ fun xs1 ps_ => gC Cl.no ps_ fun p_ ps_ => qFn Cl.no 198 p_ fun sg_ => sigL Cl.no 3 sg_ fun a2 sg_ => sigL Cl.no 3 sg_ fun a3 sg_ => gE Cl.no sg_ <| gE Cl.no ps_ <| { α := Int, o := f197 k xs1 a2 a3, w := f197.w, nat := fun x _ => f197.wn x }
def f197.e (k : Nat) : Entry env := ⟨fun ps => f197.hd k (coer [[.rd 104], []] ps), [], []⟩
def f197.X (k : Nat) : Ctx env := { C := lookE [(198, f198.e k)], L := lookE [(2, fun S => f197.l2.hd k S.ts S.m S.n)], J := lookE [], keep := lookD [(2, [0, 1, 7, 8])], keepX := lookD [(2, [4])], span := lookN [(2, 208)], eff := fun n => memN n [], prep := lookP [], np := 0 }
theorem f197.l2.nat {R : Type} (k : Nat) (rec_) (g : _ → Option R) (xs4 a5 a6 a7 a8) : (f197.l2.step k rec_ some xs4 a5 a6 a7 a8).bind g = f197.l2.step k (fun xs4 a5 a6 a7 a8 => (rec_ xs4 a5 a6 a7 a8).bind g) g xs4 a5 a6 a7 a8 := by
  simp only [f197.l2.step, bind_ite, bind_sum, Option.bind_assoc, Option.bind_some, Option.bind_none]
theorem f197.l2.good (k : Nat) (xs4 a5 a6 a7 a8) : GoodL (f197.X k) (nthC 0 (loopsOf (bodyOf Try.f197))) (f197.l2.st xs4 a5 a6 a7 a8) { α := _, o := f197.l2 k k xs4 a5 a6 a7 a8, w := f197.l2.w } :=
  loop_good (ι := (List S104) × Int × Int × Int × Int) (α := (Int ⊕ (Unit))) (fun i => f197.l2.st i.1 i.2.1 i.2.2.1 i.2.2.2.1 i.2.2.2.2) (fun j i => f197.l2 k j i.1 i.2.1 i.2.2.1 i.2.2.2.1 i.2.2.2.2) f197.l2.w (fun rec_ ret i => f197.l2.step k (fun xs4 a5 a6 a7 a8 => rec_ (xs4, a5, a6, a7, a8)) ret i.1 i.2.1 i.2.2.1 i.2.2.2.1 i.2.2.2.2)
    (fun _ => rfl) (fun _ _ => rfl) (fun rec_ g i => f197.l2.nat k _ g i.1 i.2.1 i.2.2.1 i.2.2.2.1 i.2.2.2.2) (fun {R} i0 i rec_ K => by kernel_rfl) k (xs4, a5, a6, a7, a8)
theorem f197.l2.all (k : Nat) (S : St env) : GoodL (f197.X k) (nthC 0 (loopsOf (bodyOf Try.f197))) S (f197.l2.hd k S.ts S.m S.n) := by
  obtain ⟨ts_, m_, n_⟩ := S
  show GoodL _ _ _ (f197.l2.hd k ts_ m_ n_)
  unfold f197.l2.hd
  have hg_ := f197.l2.good k
  exact rdL
theorem f197.nat {R : Type} (k : Nat) (g : _ → Option R) (xs1 a2 a3) : f197.step k g xs1 a2 a3 = (f197 k xs1 a2 a3).bind g := by
  simp only [f197, f197.step, bind_ite, bind_sum, Option.bind_assoc, Option.bind_some, Option.bind_none]
theorem f197.ev (k : Nat) (xs1 : List S104) (a2 : Int) (a3 : Int) : evF (f197.X k) (bodyOf Try.f197) Try.f197.ntmps Try.f197.results.toList [.v (.c (.sl 104 xs1)), .v (.fn 198 [⟨3, a2⟩, ⟨3, a3⟩])] = f197.step k (fun x => f197.w x some) xs1 a2 a3 := by kernel_rfl
theorem f197.hok (k : Nat) : HOK (f197.X k) (bodyOf Try.f197) where
  l := allP_mem (by exact ⟨ls_of (h0 := fun S => f197.l2.hd k S.ts S.m S.n) (by kernel_rfl) (f197.l2.all k), trivial⟩)
  j := allP_mem (by exact trivial)
  q := allP_mem (by exact trivial)
theorem f197.sound0 (k : Nat) : SoundC env Try.prog 197 (f197.hd k) := by
  intro ps_
  show GoodC _ _ _ ps_ (f197.hd k ps_)
  unfold f197.hd
  have hF_ := fun_sound envOK (cs_sound _ (by exact ⟨⟨f198.sound k, f198.fnok⟩, trivial⟩)) (f197.hok k) Try.func197 rfl
  have hev_ := f197.ev k
  have hnat_ := fun g_ => f197.nat k (R := Res env) g_
  exact rdC
theorem f197.sound (k : Nat) : SoundC env Try.prog 197 (f197.e k).F := soundC_coer (f197.sound0 k) [[.rd 104], []]
theorem f197.fnok : FnOK Try.prog 197 := fn_ok Try.func197 (by kernel_rfl) rfl
def f184.step {R : Type} (k : Nat) (ret : (Int × (List S104) × (List (List S174)) × Int) → Option R) (xs1 : List S104) (xs2 : List (List S174)) (a3 : Int) (a4 : Int) (a5 : Int) : Option R :=
  (f197 k xs1 a4 a5).bind fun t6 => ret (t6, xs1, xs2, a3)
def f184 (k : Nat) (xs1 : List S104) (xs2 : List (List S174)) (a3 : Int) (a4 : Int) (a5 : Int) : Option (Int × (List S104) × (List (List S174)) × Int) := f184.step k some xs1 xs2 a3 a4 a5
def f184.w {R : Type} : (Int × (List S104) × (List (List S174)) × Int) → (Res env → Option R) → Option R := fun t7 K => K ⟨.v (.c (.s (.int .i64 t7.1))), [[.sl 104 t7.2.1, .sl 171 t7.2.2.1, .s (.int .i64 t7.2.2.2)], [], []]⟩
theorem f184.wn (x : (Int × (List S104) × (List (List S174)) × Int)) : ∃ res, ∀ {R : Type} (K : Res env → Option R), f184.w x K = K res := by
  exact ⟨_, fun _ => rfl⟩
def f184.hd (k : Nat) (ps_ : List (P2 env)) : Cl env :=
  gC Cl.no ps_ fun p_ ps_ => qP Cl.no p_ fun cs_ => dM Cl.no 104 cs_ fun xs1 cs_ => dM Cl.no 171 cs_ fun xs2 cs_ => dI Cl.no cs_ fun a3 cs_ => gE Cl.no cs_ <| pI Cl.no ps_ fun a4 ps_ => pI Cl.no ps_ fun a5 ps_ => gE Cl.no ps_ <| { α := Int × (List S104) × (List (List S174)) × Int, o := f184 k xs1 xs2 a3 a4 a5, w := f184.w, nat := fun x _ => f184.wn x }
def f184.e (k : Nat) : Entry env := ⟨fun ps => f184.hd k (coer [[.rd 104, .rd 171, .no], [.no], [.no]] ps), [], []⟩
def f184.X (k : Nat) : Ctx env := { C := lookE [(197, f197.e k), (198, f198.e k)], L := lookE [], J := lookE [], keep := lookD [], keepX := lookD [], span := lookN [], eff := fun n => memN n [], prep := lookP [], np := 0 }
theorem f184.nat {R : Type} (k : Nat) (g : _ → Option R) (xs1 xs2 a3 a4 a5) : f184.step k g xs1 xs2 a3 a4 a5 = (f184 k xs1 xs2 a3 a4 a5).bind g := by
  simp only [f184, f184.step, bind_ite, bind_sum, Option.bind_assoc, Option.bind_some, Option.bind_none]
theorem f184.ev (k : Nat) (xs1 : List S104) (xs2 : List (List S174)) (a3 : Int) (a4 : Int) (a5 : Int) : evF (f184.X k) (bodyOf Try.f184) Try.f184.ntmps Try.f184.results.toList [.v (.ptr [.sl 104 xs1, .sl 171 xs2, .s (.int .i64 a3)]), .v (.c (.s (.int .i64 a4))), .v (.c (.s (.int .i64 a5)))] = f184.step k (fun x => f184.w x some) xs1 xs2 a3 a4 a5 := by kernel_rfl
theorem f184.hok (k : Nat) : HOK (f184.X k) (bodyOf Try.f184) where
  l := allP_mem (by exact trivial)
  j := allP_mem (by exact trivial)
  q := allP_mem (by exact trivial)
theorem f184.sound0 (k : Nat) : SoundC env Try.prog 184 (f184.hd k) := by
  intro ps_
  show GoodC _ _ _ ps_ (f184.hd k ps_)
  unfold f184.hd
  have hF_ := fun_sound envOK (cs_sound _ (by exact ⟨⟨f197.sound k, f197.fnok⟩, ⟨f198.sound k, f198.fnok⟩, trivial⟩)) (f184.hok k) Try.func184 rfl
  have hev_ := f184.ev k
  have hnat_ := fun g_ => f184.nat k (R := Res env) g_
  exact rdC
theorem f184.sound (k : Nat) : SoundC env Try.prog 184 (f184.e k).F := soundC_coer (f184.sound0 k) [[.rd 104, .rd 171, .no], [.no], [.no]]
theorem f184.fnok : FnOK Try.prog 184 := fn_ok Try.func184 (by kernel_rfl) rfl
def f134.step {R : Type} (k : Nat) (ret : (Bool × (List S104) × (List (List S174)) × Int) → Option R) (xs1 : List S104) (xs2 : List (List S174)) (a3 : Int) (a4 : Int) (a5 : Int) : Option R :=
  if (0 : Int) ≤ a4 then
 if a4 < ((List.length xs2 : Nat) : Int) then
 if (0 : Int) ≤ a5 then
 if a5 < ((List.length (List.getD xs2 (Int.toNat a4) []) : Nat) : Int) then
 if (decide (a5 = a4)) = true then
 ret ((decide ((List.getD (List.getD xs2 (Int.toNat a4) []) (Int.toNat a5) (⟨(0 : Int), (0 : Int), (0 : Int)⟩ : S174)).f0 = (0 : Int)) && (decide ((List.getD (List.getD xs2 (Int.toNat a4) []) (Int.toNat a5) (⟨(0 : Int), (0 : Int), (0 : Int)⟩ : S174)).f1 = a4) && (decide ((List.getD (List.getD xs2 (Int.toNat a4) []) (Int.toNat a5) (⟨(0 : Int), (0 : Int), (0 : Int)⟩ : S174)).f2 = (0 : Int)) && true))), xs1, xs2, a3)
 else
 (f63 k (List.getD (List.getD xs2 (Int.toNat a4) []) (Int.toNat a5) (⟨(0 : Int), (0 : Int), (0 : Int)⟩ : S174)).f0 (1 : Int) (16 : Int)).bind fun t6 => if (!t6) = false then
 (f63 k (List.getD (List.getD xs2 (Int.toNat a4) []) (Int.toNat a5) (⟨(0 : Int), (0 : Int), (0 : Int)⟩ : S174)).f2 (0 : Int) (6 : Int)).bind fun t7 => if (!t7) = true then
 ret (false, xs1, xs2, a3)
 else
 if (decide ((List.getD (List.getD xs2 (Int.toNat a4) []) (Int.toNat a5) (⟨(0 : Int), (0 : Int), (0 : Int)⟩ : S174)).f1 = (-1 : Int))) = true then
 if (decide ((List.getD (List.getD xs2 (Int.toNat a4) []) (Int.toNat a5) (⟨(0 : Int), (0 : Int), (0 : Int)⟩ : S174)).f0 = (16 : Int))) = true then
 ret ((decide ((List.getD (List.getD xs2 (Int.toNat a4) []) (Int.toNat a5) (⟨(0 : Int), (0 : Int), (0 : Int)⟩ : S174)).f2 = (0 : Int))), xs1, xs2, a3)
 else
 ret (false, xs1, xs2, a3)
 else
 (f184 k xs1 xs2 a3 a4 (List.getD (List.getD xs2 (Int.toNat a4) []) (Int.toNat a5) (⟨(0 : Int), (0 : Int), (0 : Int)⟩ : S174)).f1).bind fun t8 => if (decide (t8.1 ≥ (0 : Int))) = true then
 if (decide ((List.getD (List.getD xs2 (Int.toNat a4) []) (Int.toNat a5) (⟨(0 : Int), (0 : Int), (0 : Int)⟩ : S174)).f0 = (16 : Int))) = false then
 if (0 : Int) ≤ t8.1 then
 if t8.1 < ((List.length t8.2.1 : Nat) : Int) then
 ret ((List.getD t8.2.1 (Int.toNat t8.1) (⟨(0 : Int), (0 : Int), (0 : Int), false⟩ : S104)).f3, t8.2.1, t8.2.2.1, t8.2.2.2)
 else none
 else none
 else
 ret (true, t8.2.1, t8.2.2.1, t8.2.2.2)
 else
 ret (false, t8.2.1, t8.2.2.1, t8.2.2.2)
 else
 ret (false, xs1, xs2, a3)
 else none
 else none
 else none
 else none
def f134 (k : Nat) (xs1 : List S104) (xs2 : List (List S174)) (a3 : Int) (a4 : Int) (a5 : Int) : Option (Bool × (List S104) × (List (List S174)) × Int) := f134.step k some xs1 xs2 a3 a4 a5
def f134.w {R : Type} : (Bool × (List S104) × (List (List S174)) × Int) → (Res env → Option R) → Option R := fun t9 K => K ⟨.v (.c (.s (.bool t9.1))), [[.sl 104 t9.2.1, .sl 171 t9.2.2.1, .s (.int .i64 t9.2.2.2)], [], []]⟩
theorem f134.wn (x : (Bool × (List S104) × (List (List S174)) × Int)) : ∃ res, ∀ {R : Type} (K : Res env → Option R), f134.w x K = K res := by
  exact ⟨_, fun _ => rfl⟩
def f134.hd (k : Nat) (ps_ : List (P2 env)) : Cl env :=
  gC Cl.no ps_ fun p_ ps_ => qP Cl.no p_ fun cs_ => dM Cl.no 104 cs_ fun xs1 cs_ => dM Cl.no 171 cs_ fun xs2 cs_ => dI Cl.no cs_ fun a3 cs_ => gE Cl.no cs_ <| pI Cl.no ps_ fun a4 ps_ => pI Cl.no ps_ fun a5 ps_ => gE Cl.no ps_ <| { α := Bool × (List S104) × (List (List S174)) × Int, o := f134 k xs1 xs2 a3 a4 a5, w := f134.w, nat := fun x _ => f134.wn x }
def f134.e (k : Nat) : Entry env := ⟨fun ps => f134.hd k (coer [[.rd 104, .rd 171, .no], [.no], [.no]] ps), [], []⟩
def f134.X (k : Nat) : Ctx env := { C := lookE [(63, f63.e k), (184, f184.e k)], L := lookE [], J := lookE [], keep := lookD [], keepX := lookD [], span := lookN [], eff := fun n => memN n [], prep := lookP [], np := 0 }
theorem f134.nat {R : Type} (k : Nat) (g : _ → Option R) (xs1 xs2 a3 a4 a5) : f134.step k g xs1 xs2 a3 a4 a5 = (f134 k xs1 xs2 a3 a4 a5).bind g := by
  simp only [f134, f134.step, bind_ite, bind_sum, Option.bind_assoc, Option.bind_some, Option.bind_none]
theorem f134.ev (k : Nat) (xs1 : List S104) (xs2 : List (List S174)) (a3 : Int) (a4 : Int) (a5 : Int) : evF (f134.X k) (bodyOf Try.f134) Try.f134.ntmps Try.f134.results.toList [.v (.ptr [.sl 104 xs1, .sl 171 xs2, .s (.int .i64 a3)]), .v (.c (.s (.int .i64 a4))), .v (.c (.s (.int .i64 a5)))] = f134.step k (fun x => f134.w x some) xs1 xs2 a3 a4 a5 := by kernel_rfl
theorem f134.hok (k : Nat) : HOK (f134.X k) (bodyOf Try.f134) where
  l := allP_mem (by exact trivial)
  j := allP_mem (by exact trivial)
  q := allP_mem (by exact trivial)
theorem f134.sound0 (k : Nat) : SoundC env Try.prog 134 (f134.hd k) := by
  intro ps_
  show GoodC _ _ _ ps_ (f134.hd k ps_)
  unfold f134.hd
  have hF_ := fun_sound envOK (cs_sound _ (by exact ⟨⟨f63.sound k, f63.fnok⟩, ⟨f184.sound k, f184.fnok⟩, trivial⟩)) (f134.hok k) Try.func134 rfl
  have hev_ := f134.ev k
  have hnat_ := fun g_ => f134.nat k (R := Res env) g_
  exact rdC
theorem f134.sound (k : Nat) : SoundC env Try.prog 134 (f134.e k).F := soundC_coer (f134.sound0 k) [[.rd 104, .rd 171, .no], [.no], [.no]]
theorem f134.fnok : FnOK Try.prog 134 := fn_ok Try.func134 (by kernel_rfl) rfl
def f56.l4.step {R : Type} (k : Nat) (rec_ : (List (List S174)) → Int → Int → (List S104) → (List (List S174)) → Int → Option R) (ret : ((Bool × (List S104) × (List (List S174)) × Int) ⊕ ((List S104) × (List (List S174)) × Int)) → Option R) (xs5 : List (List S174)) (a6 : Int) (a7 : Int) (xs8 : List S104) (xs9 : List (List S174)) (a10 : Int) : Option R :=
  if (decide (a7 < a6)) = true then
 if (0 : Int) ≤ a7 then
 if a7 < ((List.length xs5 : Nat) : Int) then
 if (decide ((((List.length (List.getD xs5 (Int.toNat a7) [])) : Nat) : Int) ≠ a10)) = true then
 ret (.inl (false, xs8, xs9, a10))
 else
 rec_ xs5 a6 (IntKind.i64.wrap (a7 + (1 : Int))) xs8 xs9 a10
 else none
 else none
 else
 ret (.inr (xs8, xs9, a10))
def f56.l4 (k : Nat) : Nat → (List (List S174)) → Int → Int → (List S104) → (List (List S174)) → Int → Option ((Bool × (List S104) × (List (List S174)) × Int) ⊕ ((List S104) × (List (List S174)) × Int))
  | 0, _, _, _, _, _, _ => none
  | j + 1, xs5, a6, a7, xs8, xs9, a10 => f56.l4.step k (fun xs5 a6 a7 xs8 xs9 a10 => f56.l4 k j xs5 a6 a7 xs8 xs9 a10) some xs5 a6 a7 xs8 xs9 a10
def f56.l4.w {R : Type} : ((Bool × (List S104) × (List (List S174)) × Int) ⊕ ((List S104) × (List (List S174)) × Int)) → (Exit → St env → Option R) → Option R := fun x K => Sum.elim (fun t31 => K .ret ⟨fullT [1, 2] 0 55 [.v (.c (.bp 1 0)), .v (.c (.s (.bool t31.1)))], [(1, .box [.imm 104 t31.2.1, .imm 171 t31.2.2.1, .s (.int .i64 t31.2.2.2)])], 513⟩) (fun t32 => K (.exit 0) ⟨fullT [1] 0 55 [.v (.c (.bp 1 0))], [(1, .box [.imm 104 t32.1, .imm 171 t32.2.1, .s (.int .i64 t32.2.2)])], 513⟩) x
def f56.l4.st (xs5 : List (List S174)) (a6 : Int) (a7 : Int) (xs8 : List S104) (xs9 : List (List S174)) (a10 : Int) : St env := ⟨fullT [1, 22, 23, 24] 0 55 [.v (.c (.bp 1 0)), .v (.c (.imm 171 xs5)), .v (.c (.s (.int .i64 a6))), .v (.c (.s (.int .i64 a7)))], [(1, .box [.imm 104 xs8, .imm 171 xs9, .s (.int .i64 a10)])], 321⟩
def f56.l13.step {R : Type} (k : Nat) (rec_ : Int → Int → Int → Int → Int → (List S104) → (List (List S174)) → Int → Option R) (ret : ((Bool × Int × Int × (List S104) × (List (List S174)) × Int) ⊕ (Int × Int × (List S104) × (List (List S174)) × Int)) → Option R) (a18 : Int) (a19 : Int) (a20 : Int) (a21 : Int) (a22 : Int) (xs23 : List S104) (xs24 : List (List S174)) (a25 : Int) : Option R :=
  if (decide (a22 < a21)) = true then
 (f134 k xs23 xs24 a25 a18 a22).bind fun t26 => if (!t26.1) = true then
 ret (.inl (false, a19, a20, t26.2.1, t26.2.2.1, t26.2.2.2))
 else
 rec_ a18 a19 a20 a21 (IntKind.i64.wrap (a22 + (1 : Int))) t26.2.1 t26.2.2.1 t26.2.2.2
 else
 ret (.inr (a19, a20, xs23, xs24, a25))
def f56.l13 (k : Nat) : Nat → Int → Int → Int → Int → Int → (List S104) → (List (List S174)) → Int → Option ((Bool × Int × Int × (List S104) × (List (List S174)) × Int) ⊕ (Int × Int × (List S104) × (List (List S174)) × Int))
  | 0, _, _, _, _, _, _, _, _ => none
  | j + 1, a18, a19, a20, a21, a22, xs23, xs24, a25 => f56.l13.step k (fun a18 a19 a20 a21 a22 xs23 xs24 a25 => f56.l13 k j a18 a19 a20 a21 a22 xs23 xs24 a25) some a18 a19 a20 a21 a22 xs23 xs24 a25
def f56.l13.w {R : Type} : ((Bool × Int × Int × (List S104) × (List (List S174)) × Int) ⊕ (Int × Int × (List S104) × (List (List S174)) × Int)) → (Exit → St env → Option R) → Option R := fun x K => Sum.elim (fun t33 => K .ret ⟨fullT [1, 2, 36, 37] 0 55 [.v (.c (.bp 1 0)), .v (.c (.s (.bool t33.1))), .v (.c (.s (.int .i64 t33.2.1))), .v (.c (.s (.int .i64 t33.2.2.1)))], [(1, .box [.imm 104 t33.2.2.2.1, .imm 171 t33.2.2.2.2.1, .s (.int .i64 t33.2.2.2.2.2)])], 897⟩) (fun t34 => K (.exit 4) ⟨fullT [1, 36, 37] 0 55 [.v (.c (.bp 1 0)), .v (.c (.s (.int .i64 t34.1))), .v (.c (.s (.int .i64 t34.2.1)))], [(1, .box [.imm 104 t34.2.2.1, .imm 171 t34.2.2.2.1, .s (.int .i64 t34.2.2.2.2)])], 897⟩) x
def f56.l13.st (a18 : Int) (a19 : Int) (a20 : Int) (a21 : Int) (a22 : Int) (xs23 : List S104) (xs24 : List (List S174)) (a25 : Int) : St env := ⟨fullT [1, 5, 36, 37, 45, 46] 0 55 [.v (.c (.bp 1 0)), .v (.c (.s (.int .i64 a18))), .v (.c (.s (.int .i64 a19))), .v (.c (.s (.int .i64 a20))), .v (.c (.s (.int .i64 a21))), .v (.c (.s (.int .i64 a22)))], [(1, .box [.imm 104 xs23, .imm 171 xs24, .s (.int .i64 a25)])], 737⟩
def f56.l10.step {R : Type} (k : Nat) (rec_ : Int → Int → (List S104) → (List (List S174)) → Int → Option R) (ret : (Bool ⊕ (Unit)) → Option R) (a13 : Int) (a14 : Int) (xs15 : List S104) (xs16 : List (List S174)) (a17 : Int) : Option R :=
  if (decide (a14 < a13)) = true then
 if (0 : Int) ≤ a14 then
 if a14 < ((List.length xs16 : Nat) : Int) then
 (f56.l13 k k a14 a13 a14 (((List.length (List.getD xs16 (Int.toNat a14) [])) : Nat) : Int) (0 : Int) xs15 xs16 a17).bind (Sum.elim (fun t27 => ret (.inl t27.1)) (fun t28 => rec_ t28.1 (IntKind.i64.wrap (t28.2.1 + (1 : Int))) t28.2.2.1 t28.2.2.2.1 t28.2.2.2.2))
 else none
 else none
 else
 ret (.inr ())
def f56.l10 (k : Nat) : Nat → Int → Int → (List S104) → (List (List S174)) → Int → Option (Bool ⊕ (Unit))
  | 0, _, _, _, _, _ => none
  | j + 1, a13, a14, xs15, xs16, a17 => f56.l10.step k (fun a13 a14 xs15 xs16 a17 => f56.l10 k j a13 a14 xs15 xs16 a17) some a13 a14 xs15 xs16 a17
def f56.l10.w {R : Type} : (Bool ⊕ (Unit)) → (Exit → St env → Option R) → Option R := fun x K => Sum.elim (fun t35 => K .ret ⟨fullT [2] 0 55 [.v (.c (.s (.bool t35)))], [], 929⟩) (fun t36 => K (.exit 2) ⟨fullT [] 0 55 [], [], 929⟩) x
def f56.l10.st (a13 : Int) (a14 : Int) (xs15 : List S104) (xs16 : List (List S174)) (a17 : Int) : St env := ⟨fullT [1, 36, 37] 0 55 [.v (.c (.bp 1 0)), .v (.c (.s (.int .i64 a13))), .v (.c (.s (.int .i64 a14)))], [(1, .box [.imm 104 xs15, .imm 171 xs16, .s (.int .i64 a17)])], 577⟩
def f56.l4.hd (k : Nat) (ts_ : List (AV env)) (mm_ : Mem env) (n_ : Nat) : LCl env :=
  gTs Ln [1, 22, 23, 24] 55 ts_ fun l_ => tP Ln 1 l_ fun l_ => tM Ln 171 l_ fun xs5 l_ => tI Ln l_ fun a6 l_ => tI Ln l_ fun a7 l_ => gE Ln l_ <| mBox Ln 1 mm_ fun c_ m_ => cM Ln 104 c_ fun xs8 c_ => cM Ln 171 c_ fun xs9 c_ => cI Ln c_ fun a10 c_ => gE Ln c_ <| gE Ln m_ <| gN Ln 321 n_ { α := (Bool × (List S104) × (List (List S174)) × Int) ⊕ ((List S104) × (List (List S174)) × Int), o := f56.l4 k k xs5 a6 a7 xs8 xs9 a10, w := f56.l4.w }
def f56.l13.hd (k : Nat) (ts_ : List (AV env)) (mm_ : Mem env) (n_ : Nat) : LCl env :=
  gTs Ln [1, 5, 36, 37, 45, 46] 55 ts_ fun l_ => tP Ln 1 l_ fun l_ => tI Ln l_ fun a18 l_ => tI Ln l_ fun a19 l_ => tI Ln l_ fun a20 l_ => tI Ln l_ fun a21 l_ => tI Ln l_ fun a22 l_ => gE Ln l_ <| mBox Ln 1 mm_ fun c_ m_ => cM Ln 104 c_ fun xs23 c_ => cM Ln 171 c_ fun xs24 c_ => cI Ln c_ fun a25 c_ => gE Ln c_ <| gE Ln m_ <| gN Ln 737 n_ { α := (Bool × Int × Int × (List S104) × (List (List S174)) × Int) ⊕ (Int × Int × (List S104) × (List (List S174)) × Int), o := f56.l13 k k a18 a19 a20 a21 a22 xs23 xs24 a25, w := f56.l13.w }
def f56.l10.hd (k : Nat) (ts_ : List (AV env)) (mm_ : Mem env) (n_ : Nat) : LCl env :=
  gTs Ln [1, 36, 37] 55 ts_ fun l_ => tP Ln 1 l_ fun l_ => tI Ln l_ fun a13 l_ => tI Ln l_ fun a14 l_ => gE Ln l_ <| mBox Ln 1 mm_ fun c_ m_ => cM Ln 104 c_ fun xs15 c_ => cM Ln 171 c_ fun xs16 c_ => cI Ln c_ fun a17 c_ => gE Ln c_ <| gE Ln m_ <| gN Ln 577 n_ { α := Bool ⊕ (Unit), o := f56.l10 k k a13 a14 xs15 xs16 a17, w := f56.l10.w }
def f56.step {R : Type} (k : Nat) (ret : Bool → Option R) (xs1 : List S104) (xs2 : List (List S174)) (a3 : Int) : Option R :=
  (f133 k a3 xs1).bind fun t4 => if (!t4) = false then
 if (decide ((((List.length xs2) : Nat) : Int) ≠ a3)) = true then
 ret false
 else
 (f56.l4 k k xs2 (((List.length xs2) : Nat) : Int) (0 : Int) xs1 xs2 a3).bind (Sum.elim (fun t11 => ret t11.1) (fun t12 => (f56.l10 k k (((List.length t12.2.1) : Nat) : Int) (0 : Int) t12.1 t12.2.1 t12.2.2).bind (Sum.elim (fun t29 => ret t29) (fun t30 => ret true))))
 else
 ret false
def f56 (k : Nat) (xs1 : List S104) (xs2 : List (List S174)) (a3 : Int) : Option Bool := f56.step k some xs1 xs2 a3
def f56.w {R : Type} : Bool → (Res env → Option R) → Option R := fun t37 K => K ⟨.v (.c (.s (.bool t37))), [[]]⟩
theorem f56.wn (x : Bool) : ∃ res, ∀ {R : Type} (K : Res env → Option R), f56.w x K = K res := by
  exact ⟨_, fun _ => rfl⟩
def f56.hd (k : Nat) (ps_ : List (P2 env)) : Cl env :=
  gC Cl.no ps_ fun p_ ps_ => qG Cl.no p_ fun cs_ => dM Cl.no 104 cs_ fun xs1 cs_ => dM Cl.no 171 cs_ fun xs2 cs_ => dI Cl.no cs_ fun a3 cs_ => gE Cl.no cs_ <| gE Cl.no ps_ <| { α := Bool, o := f56 k xs1 xs2 a3, w := f56.w, nat := fun x _ => f56.wn x }
def f56.e (k : Nat) : Entry env := ⟨fun ps => f56.hd k (coer [[.rd 104, .rd 171, .no]] ps), [], []⟩
def f56.X (k : Nat) : Ctx env := { C := lookE [(133, f133.e k), (134, f134.e k)], L := lookE [(4, fun S => f56.l4.hd k S.ts S.m S.n), (13, fun S => f56.l13.hd k S.ts S.m S.n), (10, fun S => f56.l10.hd k S.ts S.m S.n)], J := lookE [], keep := lookD [(4, [1, 22, 23, 24]), (13, [1, 5, 36, 37, 45, 46]), (10, [1, 36, 37])], keepX := lookD [(4, [1, 2]), (13, [1, 2, 36, 37]), (10, [2])], span := lookN [(4, 192), (13, 160), (10, 352)], eff := fun n => memN n [], prep := lookP [], np := 0 }
theorem f56.l4.nat {R : Type} (k : Nat) (rec_) (g : _ → Option R) (xs5 a6 a7 xs8 xs9 a10) : (f56.l4.step k rec_ some xs5 a6 a7 xs8 xs9 a10).bind g = f56.l4.step k (fun xs5 a6 a7 xs8 xs9 a10 => (rec_ xs5 a6 a7 xs8 xs9 a10).bind g) g xs5 a6 a7 xs8 xs9 a10 := by
  simp only [f56.l4.step, bind_ite, bind_sum, Option.bind_assoc, Option.bind_some, Option.bind_none]
theorem f56.l4.good (k : Nat) (xs5 a6 a7 xs8 xs9 a10) : GoodL (f56.X k) (nthC 0 (loopsOf (bodyOf Try.f56))) (f56.l4.st xs5 a6 a7 xs8 xs9 a10) { α := _, o := f56.l4 k k xs5 a6 a7 xs8 xs9 a10, w := f56.l4.w } :=
  loop_good (ι := (List (List S174)) × Int × Int × (List S104) × (List (List S174)) × Int) (α := ((Bool × (List S104) × (List (List S174)) × Int) ⊕ ((List S104) × (List (List S174)) × Int))) (fun i => f56.l4.st i.1 i.2.1 i.2.2.1 i.2.2.2.1 i.2.2.2.2.1 i.2.2.2.2.2) (fun j i => f56.l4 k j i.1 i.2.1 i.2.2.1 i.2.2.2.1 i.2.2.2.2.1 i.2.2.2.2.2) f56.l4.w (fun rec_ ret i => f56.l4.step k (fun xs5 a6 a7 xs8 xs9 a10 => rec_ (xs5, a6, a7, xs8, xs9, a10)) ret i.1 i.2.1 i.2.2.1 i.2.2.2.1 i.2.2.2.2.1 i.2.2.2.2.2)
    (fun _ => rfl) (fun _ _ => rfl) (fun rec_ g i => f56.l4.nat k _ g i.1 i.2.1 i.2.2.1 i.2.2.2.1 i.2.2.2.2.1 i.2.2.2.2.2) (fun {R} i0 i rec_ K => by kernel_rfl) k (xs5, a6, a7, xs8, xs9, a10)
theorem f56.l4.all (k : Nat) (S : St env) : GoodL (f56.X k) (nthC 0 (loopsOf (bodyOf Try.f56))) S (f56.l4.hd k S.ts S.m S.n) := by
  obtain ⟨ts_, m_, n_⟩ := S
  show GoodL _ _ _ (f56.l4.hd k ts_ m_ n_)
  unfold f56.l4.hd
  have hg_ := f56.l4.good k
  exact rdL
theorem f56.l13.nat {R : Type} (k : Nat) (rec_) (g : _ → Option R) (a18 a19 a20 a21 a22 xs23 xs24 a25) : (f56.l13.step k rec_ some a18 a19 a20 a21 a22 xs23 xs24 a25).bind g = f56.l13.step k (fun a18 a19 a20 a21 a22 xs23 xs24 a25 => (rec_ a18 a19 a20 a21 a22 xs23 xs24 a25).bind g) g a18 a19 a20 a21 a22 xs23 xs24 a25 := by
  simp only [f56.l13.step, bind_ite, bind_sum, Option.bind_assoc, Option.bind_some, Option.bind_none]
theorem f56.l13.good (k : Nat) (a18 a19 a20 a21 a22 xs23 xs24 a25) : GoodL (f56.X k) (nthC 2 (loopsOf (bodyOf Try.f56))) (f56.l13.st a18 a19 a20 a21 a22 xs23 xs24 a25) { α := _, o := f56.l13 k k a18 a19 a20 a21 a22 xs23 xs24 a25, w := f56.l13.w } :=
  loop_good (ι := Int × Int × Int × Int × Int × (List S104) × (List (List S174)) × Int) (α := ((Bool × Int × Int × (List S104) × (List (List S174)) × Int) ⊕ (Int × Int × (List S104) × (List (List S174)) × Int))) (fun i => f56.l13.st i.1 i.2.1 i.2.2.1 i.2.2.2.1 i.2.2.2.2.1 i.2.2.2.2.2.1 i.2.2.2.2.2.2.1 i.2.2.2.2.2.2.2) (fun j i => f56.l13 k j i.1 i.2.1 i.2.2.1 i.2.2.2.1 i.2.2.2.2.1 i.2.2.2.2.2.1 i.2.2.2.2.2.2.1 i.2.2.2.2.2.2.2) f56.l13.w (fun rec_ ret i => f56.l13.step k (fun a18 a19 a20 a21 a22 xs23 xs24 a25 => rec_ (a18, a19, a20, a21, a22, xs23, xs24, a25)) ret i.1 i.2.1 i.2.2.1 i.2.2.2.1 i.2.2.2.2.1 i.2.2.2.2.2.1 i.2.2.2.2.2.2.1 i.2.2.2.2.2.2.2)
    (fun _ => rfl) (fun _ _ => rfl) (fun rec_ g i => f56.l13.nat k _ g i.1 i.2.1 i.2.2.1 i.2.2.2.1 i.2.2.2.2.1 i.2.2.2.2.2.1 i.2.2.2.2.2.2.1 i.2.2.2.2.2.2.2) (fun {R} i0 i rec_ K => by kernel_rfl) k (a18, a19, a20, a21, a22, xs23, xs24, a25)
theorem f56.l13.all (k : Nat) (S : St env) : GoodL (f56.X k) (nthC 2 (loopsOf (bodyOf Try.f56))) S (f56.l13.hd k S.ts S.m S.n) := by
  obtain ⟨ts_, m_, n_⟩ := S
  show GoodL _ _ _ (f56.l13.hd k ts_ m_ n_)
  unfold f56.l13.hd
  have hg_ := f56.l13.good k
  exact rdL
theorem f56.l10.nat {R : Type} (k : Nat) (rec_) (g : _ → Option R) (a13 a14 xs15 xs16 a17) : (f56.l10.step k rec_ some a13 a14 xs15 xs16 a17).bind g = f56.l10.step k (fun a13 a14 xs15 xs16 a17 => (rec_ a13 a14 xs15 xs16 a17).bind g) g a13 a14 xs15 xs16 a17 := by
  simp only [f56.l10.step, bind_ite, bind_sum, Option.bind_assoc, Option.bind_some, Option.bind_none]
theorem f56.l10.good (k : Nat) (a13 a14 xs15 xs16 a17) : GoodL (f56.X k) (nthC 1 (loopsOf (bodyOf Try.f56))) (f56.l10.st a13 a14 xs15 xs16 a17) { α := _, o := f56.l10 k k a13 a14 xs15 xs16 a17, w := f56.l10.w } :=
  loop_good (ι := Int × Int × (List S104) × (List (List S174)) × Int) (α := (Bool ⊕ (Unit))) (fun i => f56.l10.st i.1 i.2.1 i.2.2.1 i.2.2.2.1 i.2.2.2.2) (fun j i => f56.l10 k j i.1 i.2.1 i.2.2.1 i.2.2.2.1 i.2.2.2.2) f56.l10.w (fun rec_ ret i => f56.l10.step k (fun a13 a14 xs15 xs16 a17 => rec_ (a13, a14, xs15, xs16, a17)) ret i.1 i.2.1 i.2.2.1 i.2.2.2.1 i.2.2.2.2)
    (fun _ => rfl) (fun _ _ => rfl) (fun rec_ g i => f56.l10.nat k _ g i.1 i.2.1 i.2.2.1 i.2.2.2.1 i.2.2.2.2) (fun {R} i0 i rec_ K => by kernel_rfl) k (a13, a14, xs15, xs16, a17)
theorem f56.l10.all (k : Nat) (S : St env) : GoodL (f56.X k) (nthC 1 (loopsOf (bodyOf Try.f56))) S (f56.l10.hd k S.ts S.m S.n) := by
  obtain ⟨ts_, m_, n_⟩ := S
  show GoodL _ _ _ (f56.l10.hd k ts_ m_ n_)
  unfold f56.l10.hd
  have hg_ := f56.l10.good k
  exact rdL
theorem f56.nat {R : Type} (k : Nat) (g : _ → Option R) (xs1 xs2 a3) : f56.step k g xs1 xs2 a3 = (f56 k xs1 xs2 a3).bind g := by
  simp only [f56, f56.step, bind_ite, bind_sum, Option.bind_assoc, Option.bind_some, Option.bind_none]
theorem f56.ev (k : Nat) (xs1 : List S104) (xs2 : List (List S174)) (a3 : Int) : evF (f56.X k) (bodyOf Try.f56) Try.f56.ntmps Try.f56.results.toList [.g [.sl 104 xs1, .sl 171 xs2, .s (.int .i64 a3)]] = f56.step k (fun x => f56.w x some) xs1 xs2 a3 := by kernel_rfl
theorem f56.hok (k : Nat) : HOK (f56.X k) (bodyOf Try.f56) where
  l := allP_mem (by exact ⟨ls_of (h0 := fun S => f56.l4.hd k S.ts S.m S.n) (by kernel_rfl) (f56.l4.all k), ls_of (h0 := fun S => f56.l10.hd k S.ts S.m S.n) (by kernel_rfl) (f56.l10.all k), ls_of (h0 := fun S => f56.l13.hd k S.ts S.m S.n) (by kernel_rfl) (f56.l13.all k), trivial⟩)
  j := allP_mem (by exact trivial)
  q := allP_mem (by exact trivial)
theorem f56.sound0 (k : Nat) : SoundC env Try.prog 56 (f56.hd k) := by
  intro ps_
  show GoodC _ _ _ ps_ (f56.hd k ps_)
  unfold f56.hd
  have hF_ := fun_sound envOK (cs_sound _ (by exact ⟨⟨f133.sound k, f133.fnok⟩, ⟨f134.sound k, f134.fnok⟩, trivial⟩)) (f56.hok k) Try.func56 rfl
  have hev_ := f56.ev k
  have hnat_ := fun g_ => f56.nat k (R := Res env) g_
  exact rdC
theorem f56.sound (k : Nat) : SoundC env Try.prog 56 (f56.e k).F := soundC_coer (f56.sound0 k) [[.rd 104, .rd 171, .no]]
theorem f56.fnok : FnOK Try.prog 56 := fn_ok Try.func56 (by kernel_rfl) rfl
def f10.l9.step {R : Type} (k : Nat) (rec_ : Int → Int → Int → Int → Int → (List S104) → (List (List S174)) → Int → (List (List Int)) → Option R) (ret : (Int × Int × (List S104) × (List (List S174)) × Int × (List (List Int))) → Option R) (a11 : Int) (a12 : Int) (a13 : Int) (a14 : Int) (a15 : Int) (xs16 : List S104) (xs17 : List (List S174)) (a18 : Int) (xs19 : List (List Int)) : Option R :=
  if (decide (a15 < a14)) = true then
 if (decide (a15 ≠ a11)) = true then
 if (0 : Int) ≤ a11 then
 if a11 < ((List.length xs19 : Nat) : Int) then
 if (0 : Int) ≤ a15 then
 if a15 < ((List.length (List.getD xs19 (Int.toNat a11) []) : Nat) : Int) then
 if (Int.toNat a15) < List.length (List.getD xs19 (Int.toNat a11) []) then
 rec_ a11 a12 a13 a14 (IntKind.i64.wrap (a15 + (1 : Int))) xs16 xs17 a18 (List.set xs19 (Int.toNat a11) (List.set (List.getD xs19 (Int.toNat a11) []) (Int.toNat a15) (16 : Int)))
 else none
 else none
 else none
 else none
 else none
 else
 rec_ a11 a12 a13 a14 (IntKind.i64.wrap (a15 + (1 : Int))) xs16 xs17 a18 xs19
 else
 ret (a12, a13, xs16, xs17, a18, xs19)
def f10.l9 (k : Nat) : Nat → Int → Int → Int → Int → Int → (List S104) → (List (List S174)) → Int → (List (List Int)) → Option (Int × Int × (List S104) × (List (List S174)) × Int × (List (List Int)))
  | 0, _, _, _, _, _, _, _, _, _ => none
  | j + 1, a11, a12, a13, a14, a15, xs16, xs17, a18, xs19 => f10.l9.step k (fun a11 a12 a13 a14 a15 xs16 xs17 a18 xs19 => f10.l9 k j a11 a12 a13 a14 a15 xs16 xs17 a18 xs19) some a11 a12 a13 a14 a15 xs16 xs17 a18 xs19
def f10.l9.w {R : Type} : (Int × Int × (List S104) × (List (List S174)) × Int × (List (List Int))) → (Exit → St env → Option R) → Option R := fun t48 K => K (.exit 2) ⟨fullT [1, 4, 19, 20] 0 126 [.v (.c (.bp 1 0)), .v (.c (.row 129)), .v (.c (.s (.int .i64 t48.1))), .v (.c (.s (.int .i64 t48.2.1)))], [(1, .box [.imm 104 t48.2.2.1, .imm 171 t48.2.2.2.1, .s (.int .i64 t48.2.2.2.2.1)]), (129, .row true 32 t48.2.2.2.2.2)], 705⟩
def f10.l9.st (a11 : Int) (a12 : Int) (a13 : Int) (a14 : Int) (a15 : Int) (xs16 : List S104) (xs17 : List (List S174)) (a18 : Int) (xs19 : List (List Int)) : St env := ⟨fullT [1, 4, 5, 19, 20, 33, 34] 0 126 [.v (.c (.bp 1 0)), .v (.c (.row 129)), .v (.c (.s (.int .i64 a11))), .v (.c (.s (.int .i64 a12))), .v (.c (.s (.int .i64 a13))), .v (.c (.s (.int .i64 a14))), .v (.c (.s (.int .i64 a15)))], [(1, .box [.imm 104 xs16, .imm 171 xs17, .s (.int .i64 a18)]), (129, .row true 32 xs19)], 465⟩
def f10.l5.step {R : Type} (k : Nat) (rec_ : Int → Int → (List S104) → (List (List S174)) → Int → (List (List Int)) → Option R) (ret : ((List S104) × (List (List S174)) × Int × (List (List Int))) → Option R) (a5 : Int) (a6 : Int) (xs7 : List S104) (xs8 : List (List S174)) (a9 : Int) (xs10 : List (List Int)) : Option R :=
  if (decide (a6 < a5)) = true then
 if (0 : Int) ≤ a9 then
 if (Int.toNat a9) * 8 ≤ maxN then
 if (0 : Int) ≤ a6 then
 if a6 < ((List.length xs10 : Nat) : Int) then
 if (0 : Int) ≤ a6 then
 if a6 < ((List.length (List.set xs10 (Int.toNat a6) (List.replicate (Int.toNat a9) (0 : Int))) : Nat) : Int) then
 (f10.l9 k k a6 a5 a6 (((List.length (List.getD (List.set xs10 (Int.toNat a6) (List.replicate (Int.toNat a9) (0 : Int))) (Int.toNat a6) [])) : Nat) : Int) (0 : Int) xs7 xs8 a9 (List.set xs10 (Int.toNat a6) (List.replicate (Int.toNat a9) (0 : Int)))).bind fun t20 => rec_ t20.1 (IntKind.i64.wrap (t20.2.1 + (1 : Int))) t20.2.2.1 t20.2.2.2.1 t20.2.2.2.2.1 t20.2.2.2.2.2
 else none
 else none
 else none
 else none
 else none
 else none
 else
 ret (xs7, xs8, a9, xs10)
def f10.l5 (k : Nat) : Nat → Int → Int → (List S104) → (List (List S174)) → Int → (List (List Int)) → Option ((List S104) × (List (List S174)) × Int × (List (List Int)))
  | 0, _, _, _, _, _, _ => none
  | j + 1, a5, a6, xs7, xs8, a9, xs10 => f10.l5.step k (fun a5 a6 xs7 xs8 a9 xs10 => f10.l5 k j a5 a6 xs7 xs8 a9 xs10) some a5 a6 xs7 xs8 a9 xs10
def f10.l5.w {R : Type} : ((List S104) × (List (List S174)) × Int × (List (List Int))) → (Exit → St env → Option R) → Option R := fun t49 K => K (.exit 0) ⟨fullT [1, 4] 0 126 [.v (.c (.bp 1 0)), .v (.c (.row 129))], [(1, .box [.imm 104 t49.1, .imm 171 t49.2.1, .s (.int .i64 t49.2.2.1)]), (129, .row true 32 t49.2.2.2)], 737⟩
def f10.l5.st (a5 : Int) (a6 : Int) (xs7 : List S104) (xs8 : List (List S174)) (a9 : Int) (xs10 : List (List Int)) : St env := ⟨fullT [1, 4, 19, 20] 0 126 [.v (.c (.bp 1 0)), .v (.c (.row 129)), .v (.c (.s (.int .i64 a5))), .v (.c (.s (.int .i64 a6)))], [(1, .box [.imm 104 xs7, .imm 171 xs8, .s (.int .i64 a9)]), (129, .row true 32 xs10)], 209⟩
def f10.l16.step {R : Type} (k : Nat) (rec_ : (List S104) → Int → Int → (List (List Int)) → Option R) (ret : ((List (List Int))) → Option R) (xs22 : List S104) (a23 : Int) (a24 : Int) (xs25 : List (List Int)) : Option R :=
  if (decide (a24 < a23)) = true then
 if (0 : Int) ≤ a24 then
 if a24 < ((List.length xs22 : Nat) : Int) then
 if (List.getD xs22 (Int.toNat a24) (⟨(0 : Int), (0 : Int), (0 : Int), false⟩ : S104)).f3 = true then
 if (0 : Int) ≤ (List.getD xs22 (Int.toNat a24) (⟨(0 : Int), (0 : Int), (0 : Int), false⟩ : S104)).f0 then
 if (List.getD xs22 (Int.toNat a24) (⟨(0 : Int), (0 : Int), (0 : Int), false⟩ : S104)).f0 < ((List.length xs25 : Nat) : Int) then
 if (0 : Int) ≤ (List.getD xs22 (Int.toNat a24) (⟨(0 : Int), (0 : Int), (0 : Int), false⟩ : S104)).f1 then
 if (List.getD xs22 (Int.toNat a24) (⟨(0 : Int), (0 : Int), (0 : Int), false⟩ : S104)).f1 < ((List.length xs25 : Nat) : Int) then
 if (0 : Int) ≤ (List.getD xs22 (Int.toNat a24) (⟨(0 : Int), (0 : Int), (0 : Int), false⟩ : S104)).f1 then
 if (List.getD xs22 (Int.toNat a24) (⟨(0 : Int), (0 : Int), (0 : Int), false⟩ : S104)).f1 < ((List.length (List.getD xs25 (Int.toNat (List.getD xs22 (Int.toNat a24) (⟨(0 : Int), (0 : Int), (0 : Int), false⟩ : S104)).f0) []) : Nat) : Int) then
 if (Int.toNat (List.getD xs22 (Int.toNat a24) (⟨(0 : Int), (0 : Int), (0 : Int), false⟩ : S104)).f1) < List.length (List.getD xs25 (Int.toNat (List.getD xs22 (Int.toNat a24) (⟨(0 : Int), (0 : Int), (0 : Int), false⟩ : S104)).f0) []) then
 if (0 : Int) ≤ (List.getD xs22 (Int.toNat a24) (⟨(0 : Int), (0 : Int), (0 : Int), false⟩ : S104)).f0 then
 if (List.getD xs22 (Int.toNat a24) (⟨(0 : Int), (0 : Int), (0 : Int), false⟩ : S104)).f0 < ((List.length (List.getD (List.set xs25 (Int.toNat (List.getD xs22 (Int.toNat a24) (⟨(0 : Int), (0 : Int), (0 : Int), false⟩ : S104)).f0) (List.set (List.getD xs25 (Int.toNat (List.getD xs22 (Int.toNat a24) (⟨(0 : Int), (0 : Int), (0 : Int), false⟩ : S104)).f0) []) (Int.toNat (List.getD xs22 (Int.toNat a24) (⟨(0 : Int), (0 : Int), (0 : Int), false⟩ : S104)).f1) (List.getD xs22 (Int.toNat a24) (⟨(0 : Int), (0 : Int), (0 : Int), false⟩ : S104)).f2)) (Int.toNat (List.getD xs22 (Int.toNat a24) (⟨(0 : Int), (0 : Int), (0 : Int), false⟩ : S104)).f1) []) : Nat) : Int) then
 if (Int.toNat (List.getD xs22 (Int.toNat a24) (⟨(0 : Int), (0 : Int), (0 : Int), false⟩ : S104)).f0) < List.length (List.getD (List.set xs25 (Int.toNat (List.getD xs22 (Int.toNat a24) (⟨(0 : Int), (0 : Int), (0 : Int), false⟩ : S104)).f0) (List.set (List.getD xs25 (Int.toNat (List.getD xs22 (Int.toNat a24) (⟨(0 : Int), (0 : Int), (0 : Int), false⟩ : S104)).f0) []) (Int.toNat (List.getD xs22 (Int.toNat a24) (⟨(0 : Int), (0 : Int), (0 : Int), false⟩ : S104)).f1) (List.getD xs22 (Int.toNat a24) (⟨(0 : Int), (0 : Int), (0 : Int), false⟩ : S104)).f2)) (Int.toNat (List.getD xs22 (Int.toNat a24) (⟨(0 : Int), (0 : Int), (0 : Int), false⟩ : S104)).f1) []) then
 rec_ xs22 a23 (IntKind.i64.wrap (a24 + (1 : Int))) (List.set (List.set xs25 (Int.toNat (List.getD xs22 (Int.toNat a24) (⟨(0 : Int), (0 : Int), (0 : Int), false⟩ : S104)).f0) (List.set (List.getD xs25 (Int.toNat (List.getD xs22 (Int.toNat a24) (⟨(0 : Int), (0 : Int), (0 : Int), false⟩ : S104)).f0) []) (Int.toNat (List.getD xs22 (Int.toNat a24) (⟨(0 : Int), (0 : Int), (0 : Int), false⟩ : S104)).f1) (List.getD xs22 (Int.toNat a24) (⟨(0 : Int), (0 : Int), (0 : Int), false⟩ : S104)).f2)) (Int.toNat (List.getD xs22 (Int.toNat a24) (⟨(0 : Int), (0 : Int), (0 : Int), false⟩ : S104)).f1) (List.set (List.getD (List.set xs25 (Int.toNat (List.getD xs22 (Int.toNat a24) (⟨(0 : Int), (0 : Int), (0 : Int), false⟩ : S104)).f0) (List.set (List.getD xs25 (Int.toNat (List.getD xs22 (Int.toNat a24) (⟨(0 : Int), (0 : Int), (0 : Int), false⟩ : S104)).f0) []) (Int.toNat (List.getD xs22 (Int.toNat a24) (⟨(0 : Int), (0 : Int), (0 : Int), false⟩ : S104)).f1) (List.getD xs22 (Int.toNat a24) (⟨(0 : Int), (0 : Int), (0 : Int), false⟩ : S104)).f2)) (Int.toNat (List.getD xs22 (Int.toNat a24) (⟨(0 : Int), (0 : Int), (0 : Int), false⟩ : S104)).f1) []) (Int.toNat (List.getD xs22 (Int.toNat a24) (⟨(0 : Int), (0 : Int), (0 : Int), false⟩ : S104)).f0) (List.getD xs22 (Int.toNat a24) (⟨(0 : Int), (0 : Int), (0 : Int), false⟩ : S104)).f2))
 else none
 else none
 else none
 else none
 else none
 else none
 else none
 else none
 else none
 else none
 else
 rec_ xs22 a23 (IntKind.i64.wrap (a24 + (1 : Int))) xs25
 else none
 else none
 else
 ret xs25
def f10.l16 (k : Nat) : Nat → (List S104) → Int → Int → (List (List Int)) → Option ((List (List Int)))
  | 0, _, _, _, _ => none
  | j + 1, xs22, a23, a24, xs25 => f10.l16.step k (fun xs22 a23 a24 xs25 => f10.l16 k j xs22 a23 a24 xs25) some xs22 a23 a24 xs25
def f10.l16.w {R : Type} : ((List (List Int))) → (Exit → St env → Option R) → Option R := fun t50 K => K (.exit 4) ⟨fullT [4] 0 126 [.v (.c (.row 129))], [(129, .row true 32 t50)], 1297⟩
def f10.l16.st (xs22 : List S104) (a23 : Int) (a24 : Int) (xs25 : List (List Int)) : St env := ⟨fullT [4, 49, 50, 51] 0 126 [.v (.c (.row 129)), .v (.c (.imm 104 xs22)), .v (.c (.s (.int .i64 a23))), .v (.c (.s (.int .i64 a24)))], [(129, .row true 32 xs25)], 801⟩
def f10.l28.step {R : Type} (k : Nat) (rec_ : Int → Int → Int → Int → Int → Int → Int → Int → (List (List Int)) → Option R) (ret : (Int × Int × Int × Int × Int × (List (List Int))) → Option R) (a36 : Int) (a37 : Int) (a38 : Int) (a39 : Int) (a40 : Int) (a41 : Int) (a42 : Int) (a43 : Int) (xs44 : List (List Int)) : Option R :=
  if (decide (a43 < a42)) = true then
 if (0 : Int) ≤ a37 then
 if a37 < ((List.length xs44 : Nat) : Int) then
 if (0 : Int) ≤ a37 then
 if a37 < ((List.length xs44 : Nat) : Int) then
 if (0 : Int) ≤ a43 then
 if a43 < ((List.length (List.getD xs44 (Int.toNat a37) []) : Nat) : Int) then
 if (Int.toNat a43) < List.length (List.getD xs44 (Int.toNat a37) []) then
 if (0 : Int) ≤ a37 then
 if a37 < ((List.length xs44 : Nat) : Int) then
 if (0 : Int) ≤ a36 then
 if a36 < ((List.length (List.getD xs44 (Int.toNat a37) []) : Nat) : Int) then
 if (Int.toNat a36) < List.length (List.getD xs44 (Int.toNat a37) []) then
 if (0 : Int) ≤ a36 then
 if a36 < ((List.length xs44 : Nat) : Int) then
 if (0 : Int) ≤ a43 then
 if a43 < ((List.length (List.getD xs44 (Int.toNat a36) []) : Nat) : Int) then
 if (Int.toNat a43) < List.length (List.getD xs44 (Int.toNat a36) []) then
 if (0 : Int) ≤ a43 then
 if a43 < ((List.length (List.getD xs44 (Int.toNat a37) []) : Nat) : Int) then
 if (Int.toNat a43) < List.length (List.getD xs44 (Int.toNat a37) []) then
 rec_ a36 a37 a38 a39 a40 a41 a42 (IntKind.i64.wrap (a43 + (1 : Int))) (List.set xs44 (Int.toNat a37) (List.set (List.getD xs44 (Int.toNat a37) []) (Int.toNat a43) (if (IntKind.i64.wrap ((List.getD (List.getD xs44 (Int.toNat a37) []) (Int.toNat a36) (0 : Int)) + (List.getD (List.getD xs44 (Int.toNat a36) []) (Int.toNat a43) (0 : Int)))) < (List.getD (List.getD xs44 (Int.toNat a37) []) (Int.toNat a43) (0 : Int)) then (IntKind.i64.wrap ((List.getD (List.getD xs44 (Int.toNat a37) []) (Int.toNat a36) (0 : Int)) + (List.getD (List.getD xs44 (Int.toNat a36) []) (Int.toNat a43) (0 : Int)))) else (List.getD (List.getD xs44 (Int.toNat a37) []) (Int.toNat a43) (0 : Int)))))
 else none
 else none
 else none
 else none
 else none
 else none
 else none
 else none
 else none
 else none
 else none
 else none
 else none
 else none
 else none
 else none
 else none
 else none
 else none
 else none
 else
 ret (a36, a38, a39, a40, a41, xs44)
def f10.l28 (k : Nat) : Nat → Int → Int → Int → Int → Int → Int → Int → Int → (List (List Int)) → Option (Int × Int × Int × Int × Int × (List (List Int)))
  | 0, _, _, _, _, _, _, _, _, _ => none
  | j + 1, a36, a37, a38, a39, a40, a41, a42, a43, xs44 => f10.l28.step k (fun a36 a37 a38 a39 a40 a41 a42 a43 xs44 => f10.l28 k j a36 a37 a38 a39 a40 a41 a42 a43 xs44) some a36 a37 a38 a39 a40 a41 a42 a43 xs44
def f10.l28.w {R : Type} : (Int × Int × Int × Int × Int × (List (List Int))) → (Exit → St env → Option R) → Option R := fun t51 K => K (.exit 10) ⟨fullT [4, 9, 79, 80, 84, 85] 0 126 [.v (.c (.row 129)), .v (.c (.s (.int .i64 t51.1))), .v (.c (.s (.int .i64 t51.2.1))), .v (.c (.s (.int .i64 t51.2.2.1))), .v (.c (.s (.int .i64 t51.2.2.2.1))), .v (.c (.s (.int .i64 t51.2.2.2.2.1)))], [(129, .row true 32 t51.2.2.2.2.2)], 2097⟩
def f10.l28.st (a36 : Int) (a37 : Int) (a38 : Int) (a39 : Int) (a40 : Int) (a41 : Int) (a42 : Int) (a43 : Int) (xs44 : List (List Int)) : St env := ⟨fullT [4, 9, 10, 79, 80, 84, 85, 89, 90] 0 126 [.v (.c (.row 129)), .v (.c (.s (.int .i64 a36))), .v (.c (.s (.int .i64 a37))), .v (.c (.s (.int .i64 a38))), .v (.c (.s (.int .i64 a39))), .v (.c (.s (.int .i64 a40))), .v (.c (.s (.int .i64 a41))), .v (.c (.s (.int .i64 a42))), .v (.c (.s (.int .i64 a43)))], [(129, .row true 32 xs44)], 1537⟩
def f10.l25.step {R : Type} (k : Nat) (rec_ : Int → Int → Int → Int → Int → (List (List Int)) → Option R) (ret : (Int × Int × (List (List Int))) → Option R) (a30 : Int) (a31 : Int) (a32 : Int) (a33 : Int) (a34 : Int) (xs35 : List (List Int)) : Option R :=
  if (decide (a34 < a33)) = true then
 (f10.l28 k k a30 a34 a31 a32 a33 a34 (((List.length xs35) : Nat) : Int) (0 : Int) xs35).bind fun t45 => rec_ t45.1 t45.2.1 t45.2.2.1 t45.2.2.2.1 (IntKind.i64.wrap (t45.2.2.2.2.1 + (1 : Int))) t45.2.2.2.2.2
 else
 ret (a31, a32, xs35)
def f10.l25 (k : Nat) : Nat → Int → Int → Int → Int → Int → (List (List Int)) → Option (Int × Int × (List (List Int)))
  | 0, _, _, _, _, _, _ => none
  | j + 1, a30, a31, a32, a33, a34, xs35 => f10.l25.step k (fun a30 a31 a32 a33 a34 xs35 => f10.l25 k j a30 a31 a32 a33 a34 xs35) some a30 a31 a32 a33 a34 xs35
def f10.l25.w {R : Type} : (Int × Int × (List (List Int))) → (Exit → St env → Option R) → Option R := fun t52 K => K (.exit 8) ⟨fullT [4, 79, 80] 0 126 [.v (.c (.row 129)), .v (.c (.s (.int .i64 t52.1))), .v (.c (.s (.int .i64 t52.2.1)))], [(129, .row true 32 t52.2.2)], 2129⟩
def f10.l25.st (a30 : Int) (a31 : Int) (a32 : Int) (a33 : Int) (a34 : Int) (xs35 : List (List Int)) : St env := ⟨fullT [4, 9, 79, 80, 84, 85] 0 126 [.v (.c (.row 129)), .v (.c (.s (.int .i64 a30))), .v (.c (.s (.int .i64 a31))), .v (.c (.s (.int .i64 a32))), .v (.c (.s (.int .i64 a33))), .v (.c (.s (.int .i64 a34)))], [(129, .row true 32 xs35)], 1441⟩
def f10.l22.step {R : Type} (k : Nat) (rec_ : Int → Int → (List (List Int)) → Option R) (ret : ((List (List Int))) → Option R) (a27 : Int) (a28 : Int) (xs29 : List (List Int)) : Option R :=
  if (decide (a28 < a27)) = true then
 (f10.l25 k k a28 a27 a28 (((List.length xs29) : Nat) : Int) (0 : Int) xs29).bind fun t46 => rec_ t46.1 (IntKind.i64.wrap (t46.2.1 + (1 : Int))) t46.2.2
 else
 ret xs29
def f10.l22 (k : Nat) : Nat → Int → Int → (List (List Int)) → Option ((List (List Int)))
  | 0, _, _, _ => none
  | j + 1, a27, a28, xs29 => f10.l22.step k (fun a27 a28 xs29 => f10.l22 k j a27 a28 xs29) some a27 a28 xs29
def f10.l22.w {R : Type} : ((List (List Int))) → (Exit → St env → Option R) → Option R := fun t53 K => K (.exit 6) ⟨fullT [4] 0 126 [.v (.c (.row 129))], [(129, .row true 32 t53)], 2161⟩
def f10.l22.st (a27 : Int) (a28 : Int) (xs29 : List (List Int)) : St env := ⟨fullT [4, 79, 80] 0 126 [.v (.c (.row 129)), .v (.c (.s (.int .i64 a27))), .v (.c (.s (.int .i64 a28)))], [(129, .row true 32 xs29)], 1345⟩
def f10.l9.hd (k : Nat) (ts_ : List (AV env)) (mm_ : Mem env) (n_ : Nat) : LCl env :=
  gTs Ln [1, 4, 5, 19, 20, 33, 34] 126 ts_ fun l_ => tP Ln 1 l_ fun l_ => tR Ln 129 l_ fun l_ => tI Ln l_ fun a11 l_ => tI Ln l_ fun a12 l_ => tI Ln l_ fun a13 l_ => tI Ln l_ fun a14 l_ => tI Ln l_ fun a15 l_ => gE Ln l_ <| mBox Ln 1 mm_ fun c_ m_ => cM Ln 104 c_ fun xs16 c_ => cM Ln 171 c_ fun xs17 c_ => cI Ln c_ fun a18 c_ => gE Ln c_ <| mRow Ln 129 true 32 m_ fun xs19 m_ => gE Ln m_ <| gN Ln 465 n_ { α := Int × Int × (List S104) × (List (List S174)) × Int × (List (List Int)), o := f10.l9 k k a11 a12 a13 a14 a15 xs16 xs17 a18 xs19, w := f10.l9.w }
def f10.l5.hd (k : Nat) (ts_ : List (AV env)) (mm_ : Mem env) (n_ : Nat) : LCl env :=
  gTs Ln [1, 4, 19, 20] 126 ts_ fun l_ => tP Ln 1 l_ fun l_ => tR Ln 129 l_ fun l_ => tI Ln l_ fun a5 l_ => tI Ln l_ fun a6 l_ => gE Ln l_ <| mBox Ln 1 mm_ fun c_ m_ => cM Ln 104 c_ fun xs7 c_ => cM Ln 171 c_ fun xs8 c_ => cI Ln c_ fun a9 c_ => gE Ln c_ <| mRow Ln 129 true 32 m_ fun xs10 m_ => gE Ln m_ <| gN Ln 209 n_ { α := (List S104) × (List (List S174)) × Int × (List (List Int)), o := f10.l5 k k a5 a6 xs7 xs8 a9 xs10, w := f10.l5.w }
def f10.l16.hd (k : Nat) (ts_ : List (AV env)) (mm_ : Mem env) (n_ : Nat) : LCl env :=
  gTs Ln [4, 49, 50, 51] 126 ts_ fun l_ => tR Ln 129 l_ fun l_ => tM Ln 104 l_ fun xs22 l_ => tI Ln l_ fun a23 l_ => tI Ln l_ fun a24 l_ => gE Ln l_ <| mRow Ln 129 true 32 mm_ fun xs25 m_ => gE Ln m_ <| gN Ln 801 n_ { α := (List (List Int)), o := f10.l16 k k xs22 a23 a24 xs25, w := f10.l16.w }
def f10.l28.hd (k : Nat) (ts_ : List (AV env)) (mm_ : Mem env) (n_ : Nat) : LCl env :=
  gTs Ln [4, 9, 10, 79, 80, 84, 85, 89, 90] 126 ts_ fun l_ => tR Ln 129 l_ fun l_ => tI Ln l_ fun a36 l_ => tI Ln l_ fun a37 l_ => tI Ln l_ fun a38 l_ => tI Ln l_ fun a39 l_ => tI Ln l_ fun a40 l_ => tI Ln l_ fun a41 l_ => tI Ln l_ fun a42 l_ => tI Ln l_ fun a43 l_ => gE Ln l_ <| mRow Ln 129 true 32 mm_ fun xs44 m_ => gE Ln m_ <| gN Ln 1537 n_ { α := Int × Int × Int × Int × Int × (List (List Int)), o := f10.l28 k k a36 a37 a38 a39 a40 a41 a42 a43 xs44, w := f10.l28.w }
def f10.l25.hd (k : Nat) (ts_ : List (AV env)) (mm_ : Mem env) (n_ : Nat) : LCl env :=
  gTs Ln [4, 9, 79, 80, 84, 85] 126 ts_ fun l_ => tR Ln 129 l_ fun l_ => tI Ln l_ fun a30 l_ => tI Ln l_ fun a31 l_ => tI Ln l_ fun a32 l_ => tI Ln l_ fun a33 l_ => tI Ln l_ fun a34 l_ => gE Ln l_ <| mRow Ln 129 true 32 mm_ fun xs35 m_ => gE Ln m_ <| gN Ln 1441 n_ { α := Int × Int × (List (List Int)), o := f10.l25 k k a30 a31 a32 a33 a34 xs35, w := f10.l25.w }
def f10.l22.hd (k : Nat) (ts_ : List (AV env)) (mm_ : Mem env) (n_ : Nat) : LCl env :=
  gTs Ln [4, 79, 80] 126 ts_ fun l_ => tR Ln 129 l_ fun l_ => tI Ln l_ fun a27 l_ => tI Ln l_ fun a28 l_ => gE Ln l_ <| mRow Ln 129 true 32 mm_ fun xs29 m_ => gE Ln m_ <| gN Ln 1345 n_ { α := (List (List Int)), o := f10.l22 k k a27 a28 xs29, w := f10.l22.w }
def f10.step {R : Type} (k : Nat) (ret : (Int ⊕ ((List (List Int)) × Int)) → Option R) (xs1 : List S104) (xs2 : List (List S174)) (a3 : Int) : Option R :=
  (f56 k xs1 xs2 a3).bind fun t4 => if (!t4) = true then
 ret (.inl (1 : Int))
 else
 if (0 : Int) ≤ a3 then
 if (Int.toNat a3) * 24 ≤ maxN then
 (f10.l5 k k (((List.length (List.replicate (Int.toNat a3) ([] : List Int))) : Nat) : Int) (0 : Int) xs1 xs2 a3 (List.replicate (Int.toNat a3) ([] : List Int))).bind fun t21 => (f10.l16 k k t21.1 (((List.length t21.1) : Nat) : Int) (0 : Int) t21.2.2.2).bind fun t26 => (f10.l22 k k (((List.length t26) : Nat) : Int) (0 : Int) t26).bind fun t47 => ret (.inr (t47, (0 : Int)))
 else none
 else none
def f10 (k : Nat) (xs1 : List S104) (xs2 : List (List S174)) (a3 : Int) : Option (Int ⊕ ((List (List Int)) × Int)) := f10.step k some xs1 xs2 a3
def f10.w {R : Type} : (Int ⊕ ((List (List Int)) × Int)) → (Res env → Option R) → Option R := fun x K => Sum.elim (fun t54 => K ⟨.tup [.c (.s (.slice none 0 0)), .c (.s (.int .i64 t54))], [[]]⟩) (fun t55 => K ⟨.tup [.c (.own true 32 t55.1), .c (.s (.int .i64 t55.2))], [[]]⟩) x
theorem f10.wn (x : (Int ⊕ ((List (List Int)) × Int))) : ∃ res, ∀ {R : Type} (K : Res env → Option R), f10.w x K = K res := by
  rcases x with x | x <;> exact ⟨_, fun _ => rfl⟩
def f10.hd (k : Nat) (ps_ : List (P2 env)) : Cl env :=
  gC Cl.no ps_ fun p_ ps_ => qG Cl.no p_ fun cs_ => dM Cl.no 104 cs_ fun xs1 cs_ => dM Cl.no 171 cs_ fun xs2 cs_ => dI Cl.no cs_ fun a3 cs_ => gE Cl.no cs_ <| gE Cl.no ps_ <| { α := Int ⊕ ((List (List Int)) × Int), o := f10 k xs1 xs2 a3, w := f10.w, nat := fun x _ => f10.wn x }
def f10.e (k : Nat) : Entry env := ⟨fun ps => f10.hd k (coer [[.rd 104, .rd 171, .no]] ps), [], []⟩
def f10.X (k : Nat) : Ctx env := { C := lookE [(56, f56.e k)], L := lookE [(9, fun S => f10.l9.hd k S.ts S.m S.n), (5, fun S => f10.l5.hd k S.ts S.m S.n), (16, fun S => f10.l16.hd k S.ts S.m S.n), (28, fun S => f10.l28.hd k S.ts S.m S.n), (25, fun S => f10.l25.hd k S.ts S.m S.n), (22, fun S => f10.l22.hd k S.ts S.m S.n)], J := lookE [], keep := lookD [(9, [1, 4, 5, 19, 20, 33, 34]), (5, [1, 4, 19, 20]), (16, [4, 49, 50, 51]), (28, [4, 9, 10, 79, 80, 84, 85, 89, 90]), (25, [4, 9, 79, 80, 84, 85]), (22, [4, 79, 80])], keepX := lookD [(9, [1, 4, 19, 20]), (5, [1, 4]), (16, [4]), (28, [4, 9, 79, 80, 84, 85]), (25, [4, 79, 80]), (22, [4])], span := lookN [(9, 240), (5, 528), (16, 496), (28, 560), (25, 688), (22, 816)], eff := fun n => memN n [19, 30], prep := lookP [], np := 0, vb := lookN [(8, 2), (12, 2), (19, 2), (30, 2)], ve := lookN [(8, 1), (12, 1), (19, 1), (30, 1)] }
theorem f10.l9.nat {R : Type} (k : Nat) (rec_) (g : _ → Option R) (a11 a12 a13 a14 a15 xs16 xs17 a18 xs19) : (f10.l9.step k rec_ some a11 a12 a13 a14 a15 xs16 xs17 a18 xs19).bind g = f10.l9.step k (fun a11 a12 a13 a14 a15 xs16 xs17 a18 xs19 => (rec_ a11 a12 a13 a14 a15 xs16 xs17 a18 xs19).bind g) g a11 a12 a13 a14 a15 xs16 xs17 a18 xs19 := by
  simp only [f10.l9.step, bind_ite, bind_sum, Option.bind_assoc, Option.bind_some, Option.bind_none]
theorem f10.l9.good (k : Nat) (a11 a12 a13 a14 a15 xs16 xs17 a18 xs19) : GoodL (f10.X k) (nthC 1 (loopsOf (bodyOf Try.f10))) (f10.l9.st a11 a12 a13 a14 a15 xs16 xs17 a18 xs19) { α := _, o := f10.l9 k k a11 a12 a13 a14 a15 xs16 xs17 a18 xs19, w := f10.l9.w } :=
  loop_good (ι := Int × Int × Int × Int × Int × (List S104) × (List (List S174)) × Int × (List (List Int))) (α := (Int × Int × (List S104) × (List (List S174)) × Int × (List (List Int)))) (fun i => f10.l9.st i.1 i.2.1 i.2.2.1 i.2.2.2.1 i.2.2.2.2.1 i.2.2.2.2.2.1 i.2.2.2.2.2.2.1 i.2.2.2.2.2.2.2.1 i.2.2.2.2.2.2.2.2) (fun j i => f10.l9 k j i.1 i.2.1 i.2.2.1 i.2.2.2.1 i.2.2.2.2.1 i.2.2.2.2.2.1 i.2.2.2.2.2.2.1 i.2.2.2.2.2.2.2.1 i.2.2.2.2.2.2.2.2) f10.l9.w (fun rec_ ret i => f10.l9.step k (fun a11 a12 a13 a14 a15 xs16 xs17 a18 xs19 => rec_ (a11, a12, a13, a14, a15, xs16, xs17, a18, xs19)) ret i.1 i.2.1 i.2.2.1 i.2.2.2.1 i.2.2.2.2.1 i.2.2.2.2.2.1 i.2.2.2.2.2.2.1 i.2.2.2.2.2.2.2.1 i.2.2.2.2.2.2.2.2)
    (fun _ => rfl) (fun _ _ => rfl) (fun rec_ g i => f10.l9.nat k _ g i.1 i.2.1 i.2.2.1 i.2.2.2.1 i.2.2.2.2.1 i.2.2.2.2.2.1 i.2.2.2.2.2.2.1 i.2.2.2.2.2.2.2.1 i.2.2.2.2.2.2.2.2) (fun {R} i0 i rec_ K => by kernel_rfl) k (a11, a12, a13, a14, a15, xs16, xs17, a18, xs19)
theorem f10.l9.all (k : Nat) (S : St env) : GoodL (f10.X k) (nthC 1 (loopsOf (bodyOf Try.f10))) S (f10.l9.hd k S.ts S.m S.n) := by
  obtain ⟨ts_, m_, n_⟩ := S
  show GoodL _ _ _ (f10.l9.hd k ts_ m_ n_)
  unfold f10.l9.hd
  have hg_ := f10.l9.good k
  exact rdL
theorem f10.l5.nat {R : Type} (k : Nat) (rec_) (g : _ → Option R) (a5 a6 xs7 xs8 a9 xs10) : (f10.l5.step k rec_ some a5 a6 xs7 xs8 a9 xs10).bind g = f10.l5.step k (fun a5 a6 xs7 xs8 a9 xs10 => (rec_ a5 a6 xs7 xs8 a9 xs10).bind g) g a5 a6 xs7 xs8 a9 xs10 := by
  simp only [f10.l5.step, bind_ite, bind_sum, Option.bind_assoc, Option.bind_some, Option.bind_none]
theorem f10.l5.good (k : Nat) (a5 a6 xs7 xs8 a9 xs10) : GoodL (f10.X k) (nthC 0 (loopsOf (bodyOf Try.f10))) (f10.l5.st a5 a6 xs7 xs8 a9 xs10) { α := _, o := f10.l5 k k a5 a6 xs7 xs8 a9 xs10, w := f10.l5.w } :=
  loop_good (ι := Int × Int × (List S104) × (List (List S174)) × Int × (List (List Int))) (α := ((List S104) × (List (List S174)) × Int × (List (List Int)))) (fun i => f10.l5.st i.1 i.2.1 i.2.2.1 i.2.2.2.1 i.2.2.2.2.1 i.2.2.2.2.2) (fun j i => f10.l5 k j i.1 i.2.1 i.2.2.1 i.2.2.2.1 i.2.2.2.2.1 i.2.2.2.2.2) f10.l5.w (fun rec_ ret i => f10.l5.step k (fun a5 a6 xs7 xs8 a9 xs10 => rec_ (a5, a6, xs7, xs8, a9, xs10)) ret i.1 i.2.1 i.2.2.1 i.2.2.2.1 i.2.2.2.2.1 i.2.2.2.2.2)
    (fun _ => rfl) (fun _ _ => rfl) (fun rec_ g i => f10.l5.nat k _ g i.1 i.2.1 i.2.2.1 i.2.2.2.1 i.2.2.2.2.1 i.2.2.2.2.2) (fun {R} i0 i rec_ K => by kernel_rfl) k (a5, a6, xs7, xs8, a9, xs10)
theorem f10.l5.all (k : Nat) (S : St env) : GoodL (f10.X k) (nthC 0 (loopsOf (bodyOf Try.f10))) S (f10.l5.hd k S.ts S.m S.n) := by
  obtain ⟨ts_, m_, n_⟩ := S
  show GoodL _ _ _ (f10.l5.hd k ts_ m_ n_)
  unfold f10.l5.hd
  have hg_ := f10.l5.good k
  exact rdL
theorem f10.l16.nat {R : Type} (k : Nat) (rec_) (g : _ → Option R) (xs22 a23 a24 xs25) : (f10.l16.step k rec_ some xs22 a23 a24 xs25).bind g = f10.l16.step k (fun xs22 a23 a24 xs25 => (rec_ xs22 a23 a24 xs25).bind g) g xs22 a23 a24 xs25 := by
  simp only [f10.l16.step, bind_ite, bind_sum, Option.bind_assoc, Option.bind_some, Option.bind_none]
theorem f10.l16.good (k : Nat) (xs22 a23 a24 xs25) : GoodL (f10.X k) (nthC 2 (loopsOf (bodyOf Try.f10))) (f10.l16.st xs22 a23 a24 xs25) { α := _, o := f10.l16 k k xs22 a23 a24 xs25, w := f10.l16.w } :=
  loop_good (ι := (List S104) × Int × Int × (List (List Int))) (α := ((List (List Int)))) (fun i => f10.l16.st i.1 i.2.1 i.2.2.1 i.2.2.2) (fun j i => f10.l16 k j i.1 i.2.1 i.2.2.1 i.2.2.2) f10.l16.w (fun rec_ ret i => f10.l16.step k (fun xs22 a23 a24 xs25 => rec_ (xs22, a23, a24, xs25)) ret i.1 i.2.1 i.2.2.1 i.2.2.2)
    (fun _ => rfl) (fun _ _ => rfl) (fun rec_ g i => f10.l16.nat k _ g i.1 i.2.1 i.2.2.1 i.2.2.2) (fun {R} i0 i rec_ K => by kernel_rfl) k (xs22, a23, a24, xs25)
theorem f10.l16.all (k : Nat) (S : St env) : GoodL (f10.X k) (nthC 2 (loopsOf (bodyOf Try.f10))) S (f10.l16.hd k S.ts S.m S.n) := by
  obtain ⟨ts_, m_, n_⟩ := S
  show GoodL _ _ _ (f10.l16.hd k ts_ m_ n_)
  unfold f10.l16.hd
  have hg_ := f10.l16.good k
  exact rdL
theorem f10.l28.nat {R : Type} (k : Nat) (rec_) (g : _ → Option R) (a36 a37 a38 a39 a40 a41 a42 a43 xs44) : (f10.l28.step k rec_ some a36 a37 a38 a39 a40 a41 a42 a43 xs44).bind g = f10.l28.step k (fun a36 a37 a38 a39 a40 a41 a42 a43 xs44 => (rec_ a36 a37 a38 a39 a40 a41 a42 a43 xs44).bind g) g a36 a37 a38 a39 a40 a41 a42 a43 xs44 := by
  simp only [f10.l28.step, bind_ite, bind_sum, Option.bind_assoc, Option.bind_some, Option.bind_none]
theorem f10.l28.good (k : Nat) (a36 a37 a38 a39 a40 a41 a42 a43 xs44) : GoodL (f10.X k) (nthC 5 (loopsOf (bodyOf Try.f10))) (f10.l28.st a36 a37 a38 a39 a40 a41 a42 a43 xs44) { α := _, o := f10.l28 k k a36 a37 a38 a39 a40 a41 a42 a43 xs44, w := f10.l28.w } :=
  loop_good (ι := Int × Int × Int × Int × Int × Int × Int × Int × (List (List Int))) (α := (Int × Int × Int × Int × Int × (List (List Int)))) (fun i => f10.l28.st i.1 i.2.1 i.2.2.1 i.2.2.2.1 i.2.2.2.2.1 i.2.2.2.2.2.1 i.2.2.2.2.2.2.1 i.2.2.2.2.2.2.2.1 i.2.2.2.2.2.2.2.2) (fun j i => f10.l28 k j i.1 i.2.1 i.2.2.1 i.2.2.2.1 i.2.2.2.2.1 i.2.2.2.2.2.1 i.2.2.2.2.2.2.1 i.2.2.2.2.2.2.2.1 i.2.2.2.2.2.2.2.2) f10.l28.w (fun rec_ ret i => f10.l28.step k (fun a36 a37 a38 a39 a40 a41 a42 a43 xs44 => rec_ (a36, a37, a38, a39, a40, a41, a42, a43, xs44)) ret i.1 i.2.1 i.2.2.1 i.2.2.2.1 i.2.2.2.2.1 i.2.2.2.2.2.1 i.2.2.2.2.2.2.1 i.2.2.2.2.2.2.2.1 i.2.2.2.2.2.2.2.2)
    (fun _ => rfl) (fun _ _ => rfl) (fun rec_ g i => f10.l28.nat k _ g i.1 i.2.1 i.2.2.1 i.2.2.2.1 i.2.2.2.2.1 i.2.2.2.2.2.1 i.2.2.2.2.2.2.1 i.2.2.2.2.2.2.2.1 i.2.2.2.2.2.2.2.2) (fun {R} i0 i rec_ K => by kernel_rfl) k (a36, a37, a38, a39, a40, a41, a42, a43, xs44)
theorem f10.l28.all (k : Nat) (S : St env) : GoodL (f10.X k) (nthC 5 (loopsOf (bodyOf Try.f10))) S (f10.l28.hd k S.ts S.m S.n) := by
  obtain ⟨ts_, m_, n_⟩ := S
  show GoodL _ _ _ (f10.l28.hd k ts_ m_ n_)
  unfold f10.l28.hd
  have hg_ := f10.l28.good k
  exact rdL
theorem f10.l25.nat {R : Type} (k : Nat) (rec_) (g : _ → Option R) (a30 a31 a32 a33 a34 xs35) : (f10.l25.step k rec_ some a30 a31 a32 a33 a34 xs35).bind g = f10.l25.step k (fun a30 a31 a32 a33 a34 xs35 => (rec_ a30 a31 a32 a33 a34 xs35).bind g) g a30 a31 a32 a33 a34 xs35 := by
  simp only [f10.l25.step, bind_ite, bind_sum, Option.bind_assoc, Option.bind_some, Option.bind_none]
theorem f10.l25.good (k : Nat) (a30 a31 a32 a33 a34 xs35) : GoodL (f10.X k) (nthC 4 (loopsOf (bodyOf Try.f10))) (f10.l25.st a30 a31 a32 a33 a34 xs35) { α := _, o := f10.l25 k k a30 a31 a32 a33 a34 xs35, w := f10.l25.w } :=
  loop_good (ι := Int × Int × Int × Int × Int × (List (List Int))) (α := (Int × Int × (List (List Int)))) (fun i => f10.l25.st i.1 i.2.1 i.2.2.1 i.2.2.2.1 i.2.2.2.2.1 i.2.2.2.2.2) (fun j i => f10.l25 k j i.1 i.2.1 i.2.2.1 i.2.2.2.1 i.2.2.2.2.1 i.2.2.2.2.2) f10.l25.w (fun rec_ ret i => f10.l25.step k (fun a30 a31 a32 a33 a34 xs35 => rec_ (a30, a31, a32, a33, a34, xs35)) ret i.1 i.2.1 i.2.2.1 i.2.2.2.1 i.2.2.2.2.1 i.2.2.2.2.2)
    (fun _ => rfl) (fun _ _ => rfl) (fun rec_ g i => f10.l25.nat k _ g i.1 i.2.1 i.2.2.1 i.2.2.2.1 i.2.2.2.2.1 i.2.2.2.2.2) (fun {R} i0 i rec_ K => by kernel_rfl) k (a30, a31, a32, a33, a34, xs35)
theorem f10.l25.all (k : Nat) (S : St env) : GoodL (f10.X k) (nthC 4 (loopsOf (bodyOf Try.f10))) S (f10.l25.hd k S.ts S.m S.n) := by
  obtain ⟨ts_, m_, n_⟩ := S
  show GoodL _ _ _ (f10.l25.hd k ts_ m_ n_)
  unfold f10.l25.hd
  have hg_ := f10.l25.good k
  exact rdL
theorem f10.l22.nat {R : Type} (k : Nat) (rec_) (g : _ → Option R) (a27 a28 xs29) : (f10.l22.step k rec_ some a27 a28 xs29).bind g = f10.l22.step k (fun a27 a28 xs29 => (rec_ a27 a28 xs29).bind g) g a27 a28 xs29 := by
  simp only [f10.l22.step, bind_ite, bind_sum, Option.bind_assoc, Option.bind_some, Option.bind_none]
theorem f10.l22.good (k : Nat) (a27 a28 xs29) : GoodL (f10.X k) (nthC 3 (loopsOf (bodyOf Try.f10))) (f10.l22.st a27 a28 xs29) { α := _, o := f10.l22 k k a27 a28 xs29, w := f10.l22.w } :=
  loop_good (ι := Int × Int × (List (List Int))) (α := ((List (List Int)))) (fun i => f10.l22.st i.1 i.2.1 i.2.2) (fun j i => f10.l22 k j i.1 i.2.1 i.2.2) f10.l22.w (fun rec_ ret i => f10.l22.step k (fun a27 a28 xs29 => rec_ (a27, a28, xs29)) ret i.1 i.2.1 i.2.2)
    (fun _ => rfl) (fun _ _ => rfl) (fun rec_ g i => f10.l22.nat k _ g i.1 i.2.1 i.2.2) (fun {R} i0 i rec_ K => by kernel_rfl) k (a27, a28, xs29)
theorem f10.l22.all (k : Nat) (S : St env) : GoodL (f10.X k) (nthC 3 (loopsOf (bodyOf Try.f10))) S (f10.l22.hd k S.ts S.m S.n) := by
  obtain ⟨ts_, m_, n_⟩ := S
  show GoodL _ _ _ (f10.l22.hd k ts_ m_ n_)
  unfold f10.l22.hd
  have hg_ := f10.l22.good k
  exact rdL
theorem f10.nat {R : Type} (k : Nat) (g : _ → Option R) (xs1 xs2 a3) : f10.step k g xs1 xs2 a3 = (f10 k xs1 xs2 a3).bind g := by
  simp only [f10, f10.step, bind_ite, bind_sum, Option.bind_assoc, Option.bind_some, Option.bind_none]
theorem f10.ev (k : Nat) (xs1 : List S104) (xs2 : List (List S174)) (a3 : Int) : evF (f10.X k) (bodyOf Try.f10) Try.f10.ntmps Try.f10.results.toList [.g [.sl 104 xs1, .sl 171 xs2, .s (.int .i64 a3)]] = f10.step k (fun x => f10.w x some) xs1 xs2 a3 := by kernel_rfl
theorem f10.hok (k : Nat) : HOK (f10.X k) (bodyOf Try.f10) where
  l := allP_mem (by exact ⟨ls_of (h0 := fun S => f10.l5.hd k S.ts S.m S.n) (by kernel_rfl) (f10.l5.all k), ls_of (h0 := fun S => f10.l9.hd k S.ts S.m S.n) (by kernel_rfl) (f10.l9.all k), ls_of (h0 := fun S => f10.l16.hd k S.ts S.m S.n) (by kernel_rfl) (f10.l16.all k), ls_of (h0 := fun S => f10.l22.hd k S.ts S.m S.n) (by kernel_rfl) (f10.l22.all k), ls_of (h0 := fun S => f10.l25.hd k S.ts S.m S.n) (by kernel_rfl) (f10.l25.all k), ls_of (h0 := fun S => f10.l28.hd k S.ts S.m S.n) (by kernel_rfl) (f10.l28.all k), trivial⟩)
  j := allP_mem (by exact trivial)
  q := allP_mem (by exact trivial)
theorem f10.sound0 (k : Nat) : SoundC env Try.prog 10 (f10.hd k) := by
  intro ps_
  show GoodC _ _ _ ps_ (f10.hd k ps_)
  unfold f10.hd
  have hF_ := fun_sound envOK (cs_sound _ (by exact ⟨⟨f56.sound k, f56.fnok⟩, trivial⟩)) (f10.hok k) Try.func10 rfl
  have hev_ := f10.ev k
  have hnat_ := fun g_ => f10.nat k (R := Res env) g_
  exact rdC
theorem f10.sound (k : Nat) : SoundC env Try.prog 10 (f10.e k).F := soundC_coer (f10.sound0 k) [[.rd 104, .rd 171, .no]]
theorem f10.fnok : FnOK Try.prog 10 := fn_ok Try.func10 (by kernel_rfl) rfl
end Go.Proofs.Ytepfpdaehcmblaa.B
