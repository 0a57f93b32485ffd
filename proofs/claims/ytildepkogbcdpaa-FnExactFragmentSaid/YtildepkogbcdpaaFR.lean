/- Written by a program of this session. -/
import Derived.Test.YtildepkogbcdpaaBEnv
import Derived.Test.YtildepkogbcdpaaBHd
namespace Go.Proofs.Ytildepkogbcdpaa.B
open Go Go.B
set_option linter.unusedVariables false
set_option linter.unusedSimpArgs false
def f127.step {R : Type} (k : Nat) (ret : Int → Option R) (xs1 : List Int) (a2 : Int) : Option R :=
  if (decide ((IntKind.i64.wrap (a2 - (((List.length xs1) : Nat) : Int))) < (0 : Int))) = true then
    ret (-1 : Int)
  else
    ret (IntKind.i64.wrap (a2 - (((List.length xs1) : Nat) : Int)))
def f127 (k : Nat) (xs1 : List Int) (a2 : Int) : Option Int := f127.step k some xs1 a2
def f127.w {R : Type} : Int → (Res env → Option R) → Option R := fun t3 K => K ⟨.v (.c (.s (.int .i64 t3))), [[], []]⟩
theorem f127.wn (x : Int) : ∃ res, ∀ {R : Type} (K : Res env → Option R), f127.w x K = K res := by
  exact ⟨_, fun _ => rfl⟩
def f127.hd (k : Nat) (ps_ : List (P2 env)) : Cl env :=
  gC Cl.no ps_ fun p_ ps_ => qC Cl.no p_ fun c_ => qSl Cl.no 5 c_ fun xs1 => gC Cl.no ps_ fun p_ ps_ => qC Cl.no p_ fun c_ => qS Cl.no c_ fun v_ => vI Cl.no .i64 v_ fun a2 => gE Cl.no ps_ <| { α := Int, o := f127 k xs1 a2, w := f127.w, nat := fun x _ => f127.wn x }
def f127.e (k : Nat) : Entry env := ⟨fun ps => f127.hd k (coer [[.rd 5], [.no]] ps), []⟩
def f127.X (k : Nat) : Ctx env := { C := lookE [], L := lookE [], J := lookE [], keep := lookD [], keepX := lookD [], span := lookN [], eff := fun n => memN n [], prep := lookP [], np := 0 }
theorem f127.nat {R : Type} (k : Nat) (g : Int → Option R) (xs1 : List Int) (a2 : Int) : f127.step k g xs1 a2 = (f127 k xs1 a2).bind g := by
  simp only [f127, f127.step, bind_ite, bind_sum, Option.bind_assoc, Option.bind_some, Option.bind_none]
theorem f127.ev (k : Nat) (xs1 : List Int) (a2 : Int) : evF (f127.X k) (bodyOf Try.f127) Try.f127.ntmps Try.f127.results.toList [.v (.c (.sl 5 xs1)), .v (.c (.s (.int .i64 a2)))] = f127.step k (fun x => f127.w x some) xs1 a2 := by kernel_rfl
theorem f127.hok (k : Nat) : HOK (f127.X k) (bodyOf Try.f127) where
  l := allP_mem (by exact trivial)
  j := allP_mem (by exact trivial)
theorem f127.sound0 (k : Nat) : SoundC env Try.prog 127 (f127.hd k) := by
  intro ps_
  show GoodC _ _ _ ps_ (f127.hd k ps_)
  unfold f127.hd
  refine gC_ok (p := GoodC env Try.prog 127 _) goodC_no fun _ _ h => ?_
  subst h
  refine qC_ok (p := GoodC env Try.prog 127 _) goodC_no fun _ h => ?_
  subst h
  refine qSl_ok (p := GoodC env Try.prog 127 _) goodC_no fun _ h => ?_
  subst h
  refine gC_ok (p := GoodC env Try.prog 127 _) goodC_no fun _ _ h => ?_
  subst h
  refine qC_ok (p := GoodC env Try.prog 127 _) goodC_no fun _ h => ?_
  subst h
  refine qS_ok (p := GoodC env Try.prog 127 _) goodC_no fun _ h => ?_
  subst h
  refine vI_ok (p := GoodC env Try.prog 127 _) goodC_no fun _ h => ?_
  subst h
  refine gE_ok (p := GoodC env Try.prog 127 _) goodC_no fun h => ?_
  subst h
  exact fun_good (fun_sound envOK (cs_sound _ (by exact trivial)) (f127.hok k) Try.func127 rfl) ((f127.ev k _ _).trans (f127.nat k _ _ _))
theorem f127.sound (k : Nat) : SoundC env Try.prog 127 (f127.e k).F := soundC_coer (f127.sound0 k) [[.rd 5], [.no]]
theorem f127.says (k : Nat) (xs1 : List Int) (a2 : Int) (t4 : Int) (h_ : f127 k xs1 a2 = some t4) : SoundAt env Try.prog 127 [.v (.c (.sl 5 xs1)), .v (.c (.s (.int .i64 a2)))] ⟨.v (.c (.s (.int .i64 t4))), [[], []]⟩ :=
  fun_sound envOK (cs_sound _ (by exact trivial)) (f127.hok k) Try.func127 rfl _ _ (((f127.ev k xs1 a2).trans (f127.nat k _ xs1 a2)).trans (by rw [h_]; rfl))
theorem f127.fnok : FnOK Try.prog 127 := fn_ok Try.func127 (by kernel_rfl) rfl
def f59.step {R : Type} (k : Nat) (ret : Int → Option R) (a1 : Int) (s2 : ByteArray) (s3 : ByteArray) (a4 : Int) (a5 : Int) (a6 : Int) (a7 : Int) (b8 : Bool) (b9 : Bool) (xs10 : List Int) (a11 : Int) : Option R :=
  if (decide ((IntKind.i64.wrap (a11 - (((ByteArray.size s2) : Nat) : Int))) < (0 : Int))) = true then
    ret (-1 : Int)
  else
    if (decide ((IntKind.i64.wrap ((IntKind.i64.wrap (a11 - (((ByteArray.size s2) : Nat) : Int))) - (((ByteArray.size s3) : Nat) : Int))) < (0 : Int))) = true then
      ret (-1 : Int)
    else
      (f127 k xs10 (IntKind.i64.wrap ((IntKind.i64.wrap (a11 - (((ByteArray.size s2) : Nat) : Int))) - (((ByteArray.size s3) : Nat) : Int)))).bind fun t12 => if (decide (t12 < (0 : Int))) = true then
          ret (-1 : Int)
        else
          ret t12
def f59 (k : Nat) (a1 : Int) (s2 : ByteArray) (s3 : ByteArray) (a4 : Int) (a5 : Int) (a6 : Int) (a7 : Int) (b8 : Bool) (b9 : Bool) (xs10 : List Int) (a11 : Int) : Option Int := f59.step k some a1 s2 s3 a4 a5 a6 a7 b8 b9 xs10 a11
def f59.w {R : Type} : Int → (Res env → Option R) → Option R := fun t13 K => K ⟨.v (.c (.s (.int .i64 t13))), [[], []]⟩
theorem f59.wn (x : Int) : ∃ res, ∀ {R : Type} (K : Res env → Option R), f59.w x K = K res := by
  exact ⟨_, fun _ => rfl⟩
def f59.hd (k : Nat) (ps_ : List (P2 env)) : Cl env :=
  gC Cl.no ps_ fun p_ ps_ => qG Cl.no p_ fun cs_ => gC Cl.no cs_ fun c_ cs_ => qS Cl.no c_ fun v_ => vI Cl.no .i64 v_ fun a1 => gC Cl.no cs_ fun c_ cs_ => qS Cl.no c_ fun v_ => vS Cl.no v_ fun s2 => gC Cl.no cs_ fun c_ cs_ => qS Cl.no c_ fun v_ => vS Cl.no v_ fun s3 => gC Cl.no cs_ fun c_ cs_ => qS Cl.no c_ fun v_ => vI Cl.no .i64 v_ fun a4 => gC Cl.no cs_ fun c_ cs_ => qS Cl.no c_ fun v_ => vI Cl.no .i64 v_ fun a5 => gC Cl.no cs_ fun c_ cs_ => qS Cl.no c_ fun v_ => vI Cl.no .i64 v_ fun a6 => gC Cl.no cs_ fun c_ cs_ => qS Cl.no c_ fun v_ => vI Cl.no .i64 v_ fun a7 => gC Cl.no cs_ fun c_ cs_ => qS Cl.no c_ fun v_ => vB Cl.no v_ fun b8 => gC Cl.no cs_ fun c_ cs_ => qS Cl.no c_ fun v_ => vB Cl.no v_ fun b9 => gC Cl.no cs_ fun c_ cs_ => qSl Cl.no 5 c_ fun xs10 => gE Cl.no cs_ <| gC Cl.no ps_ fun p_ ps_ => qC Cl.no p_ fun c_ => qS Cl.no c_ fun v_ => vI Cl.no .i64 v_ fun a11 => gE Cl.no ps_ <| { α := Int, o := f59 k a1 s2 s3 a4 a5 a6 a7 b8 b9 xs10 a11, w := f59.w, nat := fun x _ => f59.wn x }
def f59.e (k : Nat) : Entry env := ⟨fun ps => f59.hd k (coer [[.no, .no, .no, .no, .no, .no, .no, .no, .no, .rd 5], [.no]] ps), []⟩
def f59.X (k : Nat) : Ctx env := { C := lookE [(127, f127.e k)], L := lookE [], J := lookE [], keep := lookD [], keepX := lookD [], span := lookN [], eff := fun n => memN n [], prep := lookP [], np := 0 }
theorem f59.nat {R : Type} (k : Nat) (g : Int → Option R) (a1 : Int) (s2 : ByteArray) (s3 : ByteArray) (a4 : Int) (a5 : Int) (a6 : Int) (a7 : Int) (b8 : Bool) (b9 : Bool) (xs10 : List Int) (a11 : Int) : f59.step k g a1 s2 s3 a4 a5 a6 a7 b8 b9 xs10 a11 = (f59 k a1 s2 s3 a4 a5 a6 a7 b8 b9 xs10 a11).bind g := by
  simp only [f59, f59.step, bind_ite, bind_sum, Option.bind_assoc, Option.bind_some, Option.bind_none]
theorem f59.ev (k : Nat) (a1 : Int) (s2 : ByteArray) (s3 : ByteArray) (a4 : Int) (a5 : Int) (a6 : Int) (a7 : Int) (b8 : Bool) (b9 : Bool) (xs10 : List Int) (a11 : Int) : evF (f59.X k) (bodyOf Try.f59) Try.f59.ntmps Try.f59.results.toList [.g [.s (.int .i64 a1), .s (.string s2), .s (.string s3), .s (.int .i64 a4), .s (.int .i64 a5), .s (.int .i64 a6), .s (.int .i64 a7), .s (.bool b8), .s (.bool b9), .sl 5 xs10], .v (.c (.s (.int .i64 a11)))] = f59.step k (fun x => f59.w x some) a1 s2 s3 a4 a5 a6 a7 b8 b9 xs10 a11 := by kernel_rfl
theorem f59.hok (k : Nat) : HOK (f59.X k) (bodyOf Try.f59) where
  l := allP_mem (by exact trivial)
  j := allP_mem (by exact trivial)
theorem f59.sound0 (k : Nat) : SoundC env Try.prog 59 (f59.hd k) := by
  intro ps_
  show GoodC _ _ _ ps_ (f59.hd k ps_)
  unfold f59.hd
  refine gC_ok (p := GoodC env Try.prog 59 _) goodC_no fun _ _ h => ?_
  subst h
  refine qG_ok (p := GoodC env Try.prog 59 _) goodC_no fun _ h => ?_
  subst h
  refine gC_ok (p := GoodC env Try.prog 59 _) goodC_no fun _ _ h => ?_
  subst h
  refine qS_ok (p := GoodC env Try.prog 59 _) goodC_no fun _ h => ?_
  subst h
  refine vI_ok (p := GoodC env Try.prog 59 _) goodC_no fun _ h => ?_
  subst h
  refine gC_ok (p := GoodC env Try.prog 59 _) goodC_no fun _ _ h => ?_
  subst h
  refine qS_ok (p := GoodC env Try.prog 59 _) goodC_no fun _ h => ?_
  subst h
  refine vS_ok (p := GoodC env Try.prog 59 _) goodC_no fun _ h => ?_
  subst h
  refine gC_ok (p := GoodC env Try.prog 59 _) goodC_no fun _ _ h => ?_
  subst h
  refine qS_ok (p := GoodC env Try.prog 59 _) goodC_no fun _ h => ?_
  subst h
  refine vS_ok (p := GoodC env Try.prog 59 _) goodC_no fun _ h => ?_
  subst h
  refine gC_ok (p := GoodC env Try.prog 59 _) goodC_no fun _ _ h => ?_
  subst h
  refine qS_ok (p := GoodC env Try.prog 59 _) goodC_no fun _ h => ?_
  subst h
  refine vI_ok (p := GoodC env Try.prog 59 _) goodC_no fun _ h => ?_
  subst h
  refine gC_ok (p := GoodC env Try.prog 59 _) goodC_no fun _ _ h => ?_
  subst h
  refine qS_ok (p := GoodC env Try.prog 59 _) goodC_no fun _ h => ?_
  subst h
  refine vI_ok (p := GoodC env Try.prog 59 _) goodC_no fun _ h => ?_
  subst h
  refine gC_ok (p := GoodC env Try.prog 59 _) goodC_no fun _ _ h => ?_
  subst h
  refine qS_ok (p := GoodC env Try.prog 59 _) goodC_no fun _ h => ?_
  subst h
  refine vI_ok (p := GoodC env Try.prog 59 _) goodC_no fun _ h => ?_
  subst h
  refine gC_ok (p := GoodC env Try.prog 59 _) goodC_no fun _ _ h => ?_
  subst h
  refine qS_ok (p := GoodC env Try.prog 59 _) goodC_no fun _ h => ?_
  subst h
  refine vI_ok (p := GoodC env Try.prog 59 _) goodC_no fun _ h => ?_
  subst h
  refine gC_ok (p := GoodC env Try.prog 59 _) goodC_no fun _ _ h => ?_
  subst h
  refine qS_ok (p := GoodC env Try.prog 59 _) goodC_no fun _ h => ?_
  subst h
  refine vB_ok (p := GoodC env Try.prog 59 _) goodC_no fun _ h => ?_
  subst h
  refine gC_ok (p := GoodC env Try.prog 59 _) goodC_no fun _ _ h => ?_
  subst h
  refine qS_ok (p := GoodC env Try.prog 59 _) goodC_no fun _ h => ?_
  subst h
  refine vB_ok (p := GoodC env Try.prog 59 _) goodC_no fun _ h => ?_
  subst h
  refine gC_ok (p := GoodC env Try.prog 59 _) goodC_no fun _ _ h => ?_
  subst h
  refine qSl_ok (p := GoodC env Try.prog 59 _) goodC_no fun _ h => ?_
  subst h
  refine gE_ok (p := GoodC env Try.prog 59 _) goodC_no fun h => ?_
  subst h
  refine gC_ok (p := GoodC env Try.prog 59 _) goodC_no fun _ _ h => ?_
  subst h
  refine qC_ok (p := GoodC env Try.prog 59 _) goodC_no fun _ h => ?_
  subst h
  refine qS_ok (p := GoodC env Try.prog 59 _) goodC_no fun _ h => ?_
  subst h
  refine vI_ok (p := GoodC env Try.prog 59 _) goodC_no fun _ h => ?_
  subst h
  refine gE_ok (p := GoodC env Try.prog 59 _) goodC_no fun h => ?_
  subst h
  exact fun_good (fun_sound envOK (cs_sound _ (by exact ⟨⟨f127.sound k, f127.fnok⟩, trivial⟩)) (f59.hok k) Try.func59 rfl) ((f59.ev k _ _ _ _ _ _ _ _ _ _ _).trans (f59.nat k _ _ _ _ _ _ _ _ _ _ _ _))
theorem f59.sound (k : Nat) : SoundC env Try.prog 59 (f59.e k).F := soundC_coer (f59.sound0 k) [[.no, .no, .no, .no, .no, .no, .no, .no, .no, .rd 5], [.no]]
theorem f59.says (k : Nat) (a1 : Int) (s2 : ByteArray) (s3 : ByteArray) (a4 : Int) (a5 : Int) (a6 : Int) (a7 : Int) (b8 : Bool) (b9 : Bool) (xs10 : List Int) (a11 : Int) (t14 : Int) (h_ : f59 k a1 s2 s3 a4 a5 a6 a7 b8 b9 xs10 a11 = some t14) : SoundAt env Try.prog 59 [.g [.s (.int .i64 a1), .s (.string s2), .s (.string s3), .s (.int .i64 a4), .s (.int .i64 a5), .s (.int .i64 a6), .s (.int .i64 a7), .s (.bool b8), .s (.bool b9), .sl 5 xs10], .v (.c (.s (.int .i64 a11)))] ⟨.v (.c (.s (.int .i64 t14))), [[], []]⟩ :=
  fun_sound envOK (cs_sound _ (by exact ⟨⟨f127.sound k, f127.fnok⟩, trivial⟩)) (f59.hok k) Try.func59 rfl _ _ (((f59.ev k a1 s2 s3 a4 a5 a6 a7 b8 b9 xs10 a11).trans (f59.nat k _ a1 s2 s3 a4 a5 a6 a7 b8 b9 xs10 a11)).trans (by rw [h_]; rfl))
theorem f59.fnok : FnOK Try.prog 59 := fn_ok Try.func59 (by kernel_rfl) rfl
def f30.l3.step {R : Type} (k : Nat) (rec_ : (List Int) → Int → (List Int) → Option R) (ret : ((List Int)) → Option R) (xs2 : List Int) (a3 : Int) (xs4 : List Int) : Option R :=
  if (decide (a3 < (((List.length xs2) : Nat) : Int))) = true then
    if (0 : Int) ≤ a3 then
      if a3 < ((List.length xs2 : Nat) : Int) then
        if (0 : Int) ≤ a3 then
          if a3 < ((List.length xs4 : Nat) : Int) then
            rec_ xs2 (IntKind.i64.wrap (a3 + (1 : Int))) (List.set xs4 (Int.toNat a3) (List.getD xs2 (Int.toNat a3) (0 : Int)))
          else none
        else none
      else none
    else none
  else
    ret xs4
def f30.l3 (k : Nat) : Nat → (List Int) → Int → (List Int) → Option ((List Int))
  | 0, _, _, _ => none
  | j + 1, xs2, a3, xs4 => f30.l3.step k (fun xs2 a3 xs4 => f30.l3 k j xs2 a3 xs4) some xs2 a3 xs4
def f30.l3.w {R : Type} : ((List Int)) → (Exit → St env → Option R) → Option R := fun t6 K => K (.exit 0) ⟨fullT [3] 0 22 [.v (.c (.row 49))], [(49, .row true 5 t6)], 337⟩
def f30.l3.st (xs2 : List Int) (a3 : Int) (xs4 : List Int) : St env := ⟨fullT [0, 3, 4] 0 22 [.v (.c (.imm 5 xs2)), .v (.c (.row 49)), .v (.c (.s (.int .i64 a3)))], [(49, .row true 5 xs4)], 97⟩
def f30.l3.hd (k : Nat) (ts_ : List (AV env)) (mm_ : Mem env) (n_ : Nat) : LCl env :=
  gTs LCl.no [0, 3, 4] 22 ts_ fun l_ => gV LCl.no l_ fun a_ l_ => rImm LCl.no 5 a_ fun xs2 => gV LCl.no l_ fun a_ l_ => rRow LCl.no 49 a_ <| gV LCl.no l_ fun a_ l_ => rV LCl.no a_ fun v_ => vI LCl.no .i64 v_ fun a3 => gE LCl.no l_ <| mRow LCl.no 49 true 5 mm_ fun xs4 m_ => gE LCl.no m_ <| gN LCl.no 97 n_ { α := (List Int), o := f30.l3 k k xs2 a3 xs4, w := f30.l3.w }
def f30.step {R : Type} (k : Nat) (ret : ((List Int)) → Option R) (xs1 : List Int) : Option R :=
  if (0 : Int) ≤ (((List.length xs1) : Nat) : Int) then
    if (Int.toNat (((List.length xs1) : Nat) : Int)) * 1 ≤ maxN then
      (f30.l3 k k xs1 (0 : Int) (List.replicate (Int.toNat (((List.length xs1) : Nat) : Int)) (0 : Int))).bind fun t5 => ret t5
    else none
  else none
def f30 (k : Nat) (xs1 : List Int) : Option ((List Int)) := f30.step k some xs1
def f30.w {R : Type} : ((List Int)) → (Res env → Option R) → Option R := fun t7 K => K ⟨.v (.c (.own true 5 t7)), [[]]⟩
theorem f30.wn (x : ((List Int))) : ∃ res, ∀ {R : Type} (K : Res env → Option R), f30.w x K = K res := by
  exact ⟨_, fun _ => rfl⟩
def f30.hd (k : Nat) (ps_ : List (P2 env)) : Cl env :=
  gC Cl.no ps_ fun p_ ps_ => qC Cl.no p_ fun c_ => qSl Cl.no 5 c_ fun xs1 => gE Cl.no ps_ <| { α := (List Int), o := f30 k xs1, w := f30.w, nat := fun x _ => f30.wn x }
def f30.e (k : Nat) : Entry env := ⟨fun ps => f30.hd k (coer [[.rd 5]] ps), []⟩
def f30.X (k : Nat) : Ctx env := { C := lookE [], L := lookE [(3, fun S => f30.l3.hd k S.ts S.m S.n)], J := lookE [], keep := lookD [(3, [0, 3, 4])], keepX := lookD [(3, [3])], span := lookN [(3, 240)], eff := fun n => memN n [], prep := lookP [], np := 0 }
theorem f30.l3.nat {R : Type} (k : Nat) (rec_ : (List Int) → Int → (List Int) → Option ((List Int))) (g : ((List Int)) → Option R) (xs2 : List Int) (a3 : Int) (xs4 : List Int) : (f30.l3.step k rec_ some xs2 a3 xs4).bind g = f30.l3.step k (fun xs2 a3 xs4 => (rec_ xs2 a3 xs4).bind g) g xs2 a3 xs4 := by
  simp only [f30.l3.step, bind_ite, bind_sum, Option.bind_assoc, Option.bind_some, Option.bind_none]
theorem f30.l3.good (k : Nat) (xs2 : List Int) (a3 : Int) (xs4 : List Int) : GoodL (f30.X k) (nthC 0 (loopsOf (bodyOf Try.f30))) (f30.l3.st xs2 a3 xs4) { α := ((List Int)), o := f30.l3 k k xs2 a3 xs4, w := f30.l3.w } :=
  loop_good (ι := (List Int) × Int × (List Int)) (α := ((List Int))) (fun i => f30.l3.st i.1 i.2.1 i.2.2) (fun j i => f30.l3 k j i.1 i.2.1 i.2.2) f30.l3.w (fun rec_ ret i => f30.l3.step k (fun xs2 a3 xs4 => rec_ (xs2, a3, xs4)) ret i.1 i.2.1 i.2.2)
    (fun _ => rfl) (fun _ _ => rfl) (fun rec_ g i => f30.l3.nat k _ g i.1 i.2.1 i.2.2) (fun {R} i0 i rec_ K => by kernel_rfl) k (xs2, a3, xs4)
theorem f30.l3.all (k : Nat) (S : St env) : GoodL (f30.X k) (nthC 0 (loopsOf (bodyOf Try.f30))) S (f30.l3.hd k S.ts S.m S.n) := by
  obtain ⟨ts_, m_, n_⟩ := S
  show GoodL _ _ _ (f30.l3.hd k ts_ m_ n_)
  unfold f30.l3.hd
  refine gTs_ok (p := GoodL _ _ _) goodL_no fun _ h => ?_
  subst h
  refine gV_ok (p := GoodL _ _ _) goodL_no fun _ _ h => ?_
  subst h
  refine rImm_ok (p := GoodL _ _ _) goodL_no fun _ h => ?_
  subst h
  refine gV_ok (p := GoodL _ _ _) goodL_no fun _ _ h => ?_
  subst h
  refine rRow_ok (p := GoodL _ _ _) goodL_no fun h => ?_
  subst h
  refine gV_ok (p := GoodL _ _ _) goodL_no fun _ _ h => ?_
  subst h
  refine rV_ok (p := GoodL _ _ _) goodL_no fun _ h => ?_
  subst h
  refine vI_ok (p := GoodL _ _ _) goodL_no fun _ h => ?_
  subst h
  refine gE_ok (p := GoodL _ _ _) goodL_no fun h => ?_
  subst h
  refine mRow_ok (p := GoodL _ _ _) goodL_no fun _ _ h => ?_
  subst h
  refine gE_ok (p := GoodL _ _ _) goodL_no fun h => ?_
  subst h
  refine gN_ok (p := GoodL _ _ _) goodL_no fun h => ?_
  subst h
  exact f30.l3.good k _ _ _
theorem f30.nat {R : Type} (k : Nat) (g : ((List Int)) → Option R) (xs1 : List Int) : f30.step k g xs1 = (f30 k xs1).bind g := by
  simp only [f30, f30.step, bind_ite, bind_sum, Option.bind_assoc, Option.bind_some, Option.bind_none]
theorem f30.ev (k : Nat) (xs1 : List Int) : evF (f30.X k) (bodyOf Try.f30) Try.f30.ntmps Try.f30.results.toList [.v (.c (.sl 5 xs1))] = f30.step k (fun x => f30.w x some) xs1 := by kernel_rfl
theorem f30.hok (k : Nat) : HOK (f30.X k) (bodyOf Try.f30) where
  l := allP_mem (by exact ⟨ls_of (h0 := fun S => f30.l3.hd k S.ts S.m S.n) (by kernel_rfl) (f30.l3.all k), trivial⟩)
  j := allP_mem (by exact trivial)
theorem f30.sound0 (k : Nat) : SoundC env Try.prog 30 (f30.hd k) := by
  intro ps_
  show GoodC _ _ _ ps_ (f30.hd k ps_)
  unfold f30.hd
  refine gC_ok (p := GoodC env Try.prog 30 _) goodC_no fun _ _ h => ?_
  subst h
  refine qC_ok (p := GoodC env Try.prog 30 _) goodC_no fun _ h => ?_
  subst h
  refine qSl_ok (p := GoodC env Try.prog 30 _) goodC_no fun _ h => ?_
  subst h
  refine gE_ok (p := GoodC env Try.prog 30 _) goodC_no fun h => ?_
  subst h
  exact fun_good (fun_sound envOK (cs_sound _ (by exact trivial)) (f30.hok k) Try.func30 rfl) ((f30.ev k _).trans (f30.nat k _ _))
theorem f30.sound (k : Nat) : SoundC env Try.prog 30 (f30.e k).F := soundC_coer (f30.sound0 k) [[.rd 5]]
theorem f30.says (k : Nat) (xs1 : List Int) (t8 : (List Int)) (h_ : f30 k xs1 = some t8) : SoundAt env Try.prog 30 [.v (.c (.sl 5 xs1))] ⟨.v (.c (.own true 5 t8)), [[]]⟩ :=
  fun_sound envOK (cs_sound _ (by exact trivial)) (f30.hok k) Try.func30 rfl _ _ (((f30.ev k xs1).trans (f30.nat k _ xs1)).trans (by rw [h_]; rfl))
theorem f30.fnok : FnOK Try.prog 30 := fn_ok Try.func30 (by kernel_rfl) rfl
def f60.step {R : Type} (k : Nat) (ret : (Int × ByteArray × ByteArray × Int × Int × Int × Int × Bool × Bool × (List Int)) → Option R) (a1 : Int) (s2 : ByteArray) (s3 : ByteArray) (a4 : Int) (a5 : Int) (a6 : Int) (a7 : Int) (b8 : Bool) (b9 : Bool) (xs10 : List Int) : Option R :=
  (f30 k xs10).bind fun t11 => ret (a1, s2, s3, a4, a5, a6, a7, b8, b9, t11)
def f60 (k : Nat) (a1 : Int) (s2 : ByteArray) (s3 : ByteArray) (a4 : Int) (a5 : Int) (a6 : Int) (a7 : Int) (b8 : Bool) (b9 : Bool) (xs10 : List Int) : Option (Int × ByteArray × ByteArray × Int × Int × Int × Int × Bool × Bool × (List Int)) := f60.step k some a1 s2 s3 a4 a5 a6 a7 b8 b9 xs10
def f60.w {R : Type} : (Int × ByteArray × ByteArray × Int × Int × Int × Int × Bool × Bool × (List Int)) → (Res env → Option R) → Option R := fun t12 K => K ⟨.v (.g [.s (.int .i64 t12.1), .s (.string t12.2.1), .s (.string t12.2.2.1), .s (.int .i64 t12.2.2.2.1), .s (.int .i64 t12.2.2.2.2.1), .s (.int .i64 t12.2.2.2.2.2.1), .s (.int .i64 t12.2.2.2.2.2.2.1), .s (.bool t12.2.2.2.2.2.2.2.1), .s (.bool t12.2.2.2.2.2.2.2.2.1), .own true 5 t12.2.2.2.2.2.2.2.2.2]), [[]]⟩
theorem f60.wn (x : (Int × ByteArray × ByteArray × Int × Int × Int × Int × Bool × Bool × (List Int))) : ∃ res, ∀ {R : Type} (K : Res env → Option R), f60.w x K = K res := by
  exact ⟨_, fun _ => rfl⟩
def f60.hd (k : Nat) (ps_ : List (P2 env)) : Cl env :=
  gC Cl.no ps_ fun p_ ps_ => qG Cl.no p_ fun cs_ => gC Cl.no cs_ fun c_ cs_ => qS Cl.no c_ fun v_ => vI Cl.no .i64 v_ fun a1 => gC Cl.no cs_ fun c_ cs_ => qS Cl.no c_ fun v_ => vS Cl.no v_ fun s2 => gC Cl.no cs_ fun c_ cs_ => qS Cl.no c_ fun v_ => vS Cl.no v_ fun s3 => gC Cl.no cs_ fun c_ cs_ => qS Cl.no c_ fun v_ => vI Cl.no .i64 v_ fun a4 => gC Cl.no cs_ fun c_ cs_ => qS Cl.no c_ fun v_ => vI Cl.no .i64 v_ fun a5 => gC Cl.no cs_ fun c_ cs_ => qS Cl.no c_ fun v_ => vI Cl.no .i64 v_ fun a6 => gC Cl.no cs_ fun c_ cs_ => qS Cl.no c_ fun v_ => vI Cl.no .i64 v_ fun a7 => gC Cl.no cs_ fun c_ cs_ => qS Cl.no c_ fun v_ => vB Cl.no v_ fun b8 => gC Cl.no cs_ fun c_ cs_ => qS Cl.no c_ fun v_ => vB Cl.no v_ fun b9 => gC Cl.no cs_ fun c_ cs_ => qSl Cl.no 5 c_ fun xs10 => gE Cl.no cs_ <| gE Cl.no ps_ <| { α := Int × ByteArray × ByteArray × Int × Int × Int × Int × Bool × Bool × (List Int), o := f60 k a1 s2 s3 a4 a5 a6 a7 b8 b9 xs10, w := f60.w, nat := fun x _ => f60.wn x }
def f60.e (k : Nat) : Entry env := ⟨fun ps => f60.hd k (coer [[.no, .no, .no, .no, .no, .no, .no, .no, .no, .rd 5]] ps), []⟩
def f60.X (k : Nat) : Ctx env := { C := lookE [(30, f30.e k)], L := lookE [], J := lookE [], keep := lookD [], keepX := lookD [], span := lookN [], eff := fun n => memN n [], prep := lookP [], np := 0 }
theorem f60.nat {R : Type} (k : Nat) (g : (Int × ByteArray × ByteArray × Int × Int × Int × Int × Bool × Bool × (List Int)) → Option R) (a1 : Int) (s2 : ByteArray) (s3 : ByteArray) (a4 : Int) (a5 : Int) (a6 : Int) (a7 : Int) (b8 : Bool) (b9 : Bool) (xs10 : List Int) : f60.step k g a1 s2 s3 a4 a5 a6 a7 b8 b9 xs10 = (f60 k a1 s2 s3 a4 a5 a6 a7 b8 b9 xs10).bind g := by
  simp only [f60, f60.step, bind_ite, bind_sum, Option.bind_assoc, Option.bind_some, Option.bind_none]
theorem f60.ev (k : Nat) (a1 : Int) (s2 : ByteArray) (s3 : ByteArray) (a4 : Int) (a5 : Int) (a6 : Int) (a7 : Int) (b8 : Bool) (b9 : Bool) (xs10 : List Int) : evF (f60.X k) (bodyOf Try.f60) Try.f60.ntmps Try.f60.results.toList [.g [.s (.int .i64 a1), .s (.string s2), .s (.string s3), .s (.int .i64 a4), .s (.int .i64 a5), .s (.int .i64 a6), .s (.int .i64 a7), .s (.bool b8), .s (.bool b9), .sl 5 xs10]] = f60.step k (fun x => f60.w x some) a1 s2 s3 a4 a5 a6 a7 b8 b9 xs10 := by kernel_rfl
theorem f60.hok (k : Nat) : HOK (f60.X k) (bodyOf Try.f60) where
  l := allP_mem (by exact trivial)
  j := allP_mem (by exact trivial)
theorem f60.sound0 (k : Nat) : SoundC env Try.prog 60 (f60.hd k) := by
  intro ps_
  show GoodC _ _ _ ps_ (f60.hd k ps_)
  unfold f60.hd
  refine gC_ok (p := GoodC env Try.prog 60 _) goodC_no fun _ _ h => ?_
  subst h
  refine qG_ok (p := GoodC env Try.prog 60 _) goodC_no fun _ h => ?_
  subst h
  refine gC_ok (p := GoodC env Try.prog 60 _) goodC_no fun _ _ h => ?_
  subst h
  refine qS_ok (p := GoodC env Try.prog 60 _) goodC_no fun _ h => ?_
  subst h
  refine vI_ok (p := GoodC env Try.prog 60 _) goodC_no fun _ h => ?_
  subst h
  refine gC_ok (p := GoodC env Try.prog 60 _) goodC_no fun _ _ h => ?_
  subst h
  refine qS_ok (p := GoodC env Try.prog 60 _) goodC_no fun _ h => ?_
  subst h
  refine vS_ok (p := GoodC env Try.prog 60 _) goodC_no fun _ h => ?_
  subst h
  refine gC_ok (p := GoodC env Try.prog 60 _) goodC_no fun _ _ h => ?_
  subst h
  refine qS_ok (p := GoodC env Try.prog 60 _) goodC_no fun _ h => ?_
  subst h
  refine vS_ok (p := GoodC env Try.prog 60 _) goodC_no fun _ h => ?_
  subst h
  refine gC_ok (p := GoodC env Try.prog 60 _) goodC_no fun _ _ h => ?_
  subst h
  refine qS_ok (p := GoodC env Try.prog 60 _) goodC_no fun _ h => ?_
  subst h
  refine vI_ok (p := GoodC env Try.prog 60 _) goodC_no fun _ h => ?_
  subst h
  refine gC_ok (p := GoodC env Try.prog 60 _) goodC_no fun _ _ h => ?_
  subst h
  refine qS_ok (p := GoodC env Try.prog 60 _) goodC_no fun _ h => ?_
  subst h
  refine vI_ok (p := GoodC env Try.prog 60 _) goodC_no fun _ h => ?_
  subst h
  refine gC_ok (p := GoodC env Try.prog 60 _) goodC_no fun _ _ h => ?_
  subst h
  refine qS_ok (p := GoodC env Try.prog 60 _) goodC_no fun _ h => ?_
  subst h
  refine vI_ok (p := GoodC env Try.prog 60 _) goodC_no fun _ h => ?_
  subst h
  refine gC_ok (p := GoodC env Try.prog 60 _) goodC_no fun _ _ h => ?_
  subst h
  refine qS_ok (p := GoodC env Try.prog 60 _) goodC_no fun _ h => ?_
  subst h
  refine vI_ok (p := GoodC env Try.prog 60 _) goodC_no fun _ h => ?_
  subst h
  refine gC_ok (p := GoodC env Try.prog 60 _) goodC_no fun _ _ h => ?_
  subst h
  refine qS_ok (p := GoodC env Try.prog 60 _) goodC_no fun _ h => ?_
  subst h
  refine vB_ok (p := GoodC env Try.prog 60 _) goodC_no fun _ h => ?_
  subst h
  refine gC_ok (p := GoodC env Try.prog 60 _) goodC_no fun _ _ h => ?_
  subst h
  refine qS_ok (p := GoodC env Try.prog 60 _) goodC_no fun _ h => ?_
  subst h
  refine vB_ok (p := GoodC env Try.prog 60 _) goodC_no fun _ h => ?_
  subst h
  refine gC_ok (p := GoodC env Try.prog 60 _) goodC_no fun _ _ h => ?_
  subst h
  refine qSl_ok (p := GoodC env Try.prog 60 _) goodC_no fun _ h => ?_
  subst h
  refine gE_ok (p := GoodC env Try.prog 60 _) goodC_no fun h => ?_
  subst h
  refine gE_ok (p := GoodC env Try.prog 60 _) goodC_no fun h => ?_
  subst h
  exact fun_good (fun_sound envOK (cs_sound _ (by exact ⟨⟨f30.sound k, f30.fnok⟩, trivial⟩)) (f60.hok k) Try.func60 rfl) ((f60.ev k _ _ _ _ _ _ _ _ _ _).trans (f60.nat k _ _ _ _ _ _ _ _ _ _ _))
theorem f60.sound (k : Nat) : SoundC env Try.prog 60 (f60.e k).F := soundC_coer (f60.sound0 k) [[.no, .no, .no, .no, .no, .no, .no, .no, .no, .rd 5]]
theorem f60.says (k : Nat) (a1 : Int) (s2 : ByteArray) (s3 : ByteArray) (a4 : Int) (a5 : Int) (a6 : Int) (a7 : Int) (b8 : Bool) (b9 : Bool) (xs10 : List Int) (t13 : Int × ByteArray × ByteArray × Int × Int × Int × Int × Bool × Bool × (List Int)) (h_ : f60 k a1 s2 s3 a4 a5 a6 a7 b8 b9 xs10 = some t13) : SoundAt env Try.prog 60 [.g [.s (.int .i64 a1), .s (.string s2), .s (.string s3), .s (.int .i64 a4), .s (.int .i64 a5), .s (.int .i64 a6), .s (.int .i64 a7), .s (.bool b8), .s (.bool b9), .sl 5 xs10]] ⟨.v (.g [.s (.int .i64 t13.1), .s (.string t13.2.1), .s (.string t13.2.2.1), .s (.int .i64 t13.2.2.2.1), .s (.int .i64 t13.2.2.2.2.1), .s (.int .i64 t13.2.2.2.2.2.1), .s (.int .i64 t13.2.2.2.2.2.2.1), .s (.bool t13.2.2.2.2.2.2.2.1), .s (.bool t13.2.2.2.2.2.2.2.2.1), .own true 5 t13.2.2.2.2.2.2.2.2.2]), [[]]⟩ :=
  fun_sound envOK (cs_sound _ (by exact ⟨⟨f30.sound k, f30.fnok⟩, trivial⟩)) (f60.hok k) Try.func60 rfl _ _ (((f60.ev k a1 s2 s3 a4 a5 a6 a7 b8 b9 xs10).trans (f60.nat k _ a1 s2 s3 a4 a5 a6 a7 b8 b9 xs10)).trans (by rw [h_]; rfl))
theorem f60.fnok : FnOK Try.prog 60 := fn_ok Try.func60 (by kernel_rfl) rfl
def f86.step {R : Type} (k : Nat) (ret : Bool → Option R) (a1 : Int) (a2 : Int) (a3 : Int) : Option R :=
  if (decide (a1 ≥ a2)) = true then
    ret (decide (a1 ≤ a3))
  else
    ret false
def f86 (k : Nat) (a1 : Int) (a2 : Int) (a3 : Int) : Option Bool := f86.step k some a1 a2 a3
def f86.w {R : Type} : Bool → (Res env → Option R) → Option R := fun t4 K => K ⟨.v (.c (.s (.bool t4))), [[], [], []]⟩
theorem f86.wn (x : Bool) : ∃ res, ∀ {R : Type} (K : Res env → Option R), f86.w x K = K res := by
  exact ⟨_, fun _ => rfl⟩
def f86.hd (k : Nat) (ps_ : List (P2 env)) : Cl env :=
  gC Cl.no ps_ fun p_ ps_ => qC Cl.no p_ fun c_ => qS Cl.no c_ fun v_ => vI Cl.no .i64 v_ fun a1 => gC Cl.no ps_ fun p_ ps_ => qC Cl.no p_ fun c_ => qS Cl.no c_ fun v_ => vI Cl.no .i64 v_ fun a2 => gC Cl.no ps_ fun p_ ps_ => qC Cl.no p_ fun c_ => qS Cl.no c_ fun v_ => vI Cl.no .i64 v_ fun a3 => gE Cl.no ps_ <| { α := Bool, o := f86 k a1 a2 a3, w := f86.w, nat := fun x _ => f86.wn x }
def f86.e (k : Nat) : Entry env := ⟨f86.hd k, []⟩
def f86.X (k : Nat) : Ctx env := { C := lookE [], L := lookE [], J := lookE [], keep := lookD [], keepX := lookD [], span := lookN [], eff := fun n => memN n [], prep := lookP [], np := 0 }
theorem f86.nat {R : Type} (k : Nat) (g : Bool → Option R) (a1 : Int) (a2 : Int) (a3 : Int) : f86.step k g a1 a2 a3 = (f86 k a1 a2 a3).bind g := by
  simp only [f86, f86.step, bind_ite, bind_sum, Option.bind_assoc, Option.bind_some, Option.bind_none]
theorem f86.ev (k : Nat) (a1 : Int) (a2 : Int) (a3 : Int) : evF (f86.X k) (bodyOf Try.f86) Try.f86.ntmps Try.f86.results.toList [.v (.c (.s (.int .i64 a1))), .v (.c (.s (.int .i64 a2))), .v (.c (.s (.int .i64 a3)))] = f86.step k (fun x => f86.w x some) a1 a2 a3 := by kernel_rfl
theorem f86.hok (k : Nat) : HOK (f86.X k) (bodyOf Try.f86) where
  l := allP_mem (by exact trivial)
  j := allP_mem (by exact trivial)
theorem f86.sound (k : Nat) : SoundC env Try.prog 86 ((f86.e k).F) := by
  intro ps_
  show GoodC _ _ _ ps_ (f86.hd k ps_)
  unfold f86.hd
  refine gC_ok (p := GoodC env Try.prog 86 _) goodC_no fun _ _ h => ?_
  subst h
  refine qC_ok (p := GoodC env Try.prog 86 _) goodC_no fun _ h => ?_
  subst h
  refine qS_ok (p := GoodC env Try.prog 86 _) goodC_no fun _ h => ?_
  subst h
  refine vI_ok (p := GoodC env Try.prog 86 _) goodC_no fun _ h => ?_
  subst h
  refine gC_ok (p := GoodC env Try.prog 86 _) goodC_no fun _ _ h => ?_
  subst h
  refine qC_ok (p := GoodC env Try.prog 86 _) goodC_no fun _ h => ?_
  subst h
  refine qS_ok (p := GoodC env Try.prog 86 _) goodC_no fun _ h => ?_
  subst h
  refine vI_ok (p := GoodC env Try.prog 86 _) goodC_no fun _ h => ?_
  subst h
  refine gC_ok (p := GoodC env Try.prog 86 _) goodC_no fun _ _ h => ?_
  subst h
  refine qC_ok (p := GoodC env Try.prog 86 _) goodC_no fun _ h => ?_
  subst h
  refine qS_ok (p := GoodC env Try.prog 86 _) goodC_no fun _ h => ?_
  subst h
  refine vI_ok (p := GoodC env Try.prog 86 _) goodC_no fun _ h => ?_
  subst h
  refine gE_ok (p := GoodC env Try.prog 86 _) goodC_no fun h => ?_
  subst h
  exact fun_good (fun_sound envOK (cs_sound _ (by exact trivial)) (f86.hok k) Try.func86 rfl) ((f86.ev k _ _ _).trans (f86.nat k _ _ _ _))
theorem f86.says (k : Nat) (a1 : Int) (a2 : Int) (a3 : Int) (t5 : Bool) (h_ : f86 k a1 a2 a3 = some t5) : SoundAt env Try.prog 86 [.v (.c (.s (.int .i64 a1))), .v (.c (.s (.int .i64 a2))), .v (.c (.s (.int .i64 a3)))] ⟨.v (.c (.s (.bool t5))), [[], [], []]⟩ :=
  fun_sound envOK (cs_sound _ (by exact trivial)) (f86.hok k) Try.func86 rfl _ _ (((f86.ev k a1 a2 a3).trans (f86.nat k _ a1 a2 a3)).trans (by rw [h_]; rfl))
theorem f86.fnok : FnOK Try.prog 86 := fn_ok Try.func86 (by kernel_rfl) rfl
def f85.step {R : Type} (k : Nat) (ret : Bool → Option R) (a1 : Int) (s2 : ByteArray) (s3 : ByteArray) (a4 : Int) (a5 : Int) (a6 : Int) (a7 : Int) (b8 : Bool) (b9 : Bool) (xs10 : List Int) : Option R :=
  if (decide ((((List.length xs10) : Nat) : Int) > (1500 : Int))) = false then
    (f86 k a4 (0 : Int) (255 : Int)).bind fun t11 => if (!t11) = false then
        (f86 k a5 (0 : Int) (255 : Int)).bind fun t12 => if (!t12) = true then
            ret false
          else
            if (decide (a1 = (4 : Int))) = true then
              if (decide ((((ByteArray.size s2) : Nat) : Int) = (4 : Int))) = true then
                if (decide ((((ByteArray.size s3) : Nat) : Int) = (4 : Int))) = true then
                  (f86 k a6 (0 : Int) (65535 : Int)).bind fun t13 => if t13 = true then
                      (f86 k a7 (0 : Int) (8191 : Int)).bind fun t14 => if t14 = true then
                          if b9 = true then
                            if b8 = false then
                              if (!(decide (a7 > (0 : Int)))) = true then
                                if (!b8) = false then
                                  if (decide ((Int.tmod (((List.length xs10) : Nat) : Int) (8 : Int)) = (0 : Int))) = true then
                                    if (decide ((((List.length xs10) : Nat) : Int) > (0 : Int))) = true then
                                      ret (decide ((IntKind.i64.wrap ((IntKind.i64.wrap ((8 : Int) * a7)) + (((List.length xs10) : Nat) : Int))) ≤ (65515 : Int)))
                                    else
                                      ret false
                                  else
                                    ret false
                                else
                                  ret (decide ((IntKind.i64.wrap ((IntKind.i64.wrap ((8 : Int) * a7)) + (((List.length xs10) : Nat) : Int))) ≤ (65515 : Int)))
                              else
                                ret false
                            else
                              ret false
                          else
                            if (!b8) = false then
                              if (decide ((Int.tmod (((List.length xs10) : Nat) : Int) (8 : Int)) = (0 : Int))) = true then
                                if (decide ((((List.length xs10) : Nat) : Int) > (0 : Int))) = true then
                                  ret (decide ((IntKind.i64.wrap ((IntKind.i64.wrap ((8 : Int) * a7)) + (((List.length xs10) : Nat) : Int))) ≤ (65515 : Int)))
                                else
                                  ret false
                              else
                                ret false
                            else
                              ret (decide ((IntKind.i64.wrap ((IntKind.i64.wrap ((8 : Int) * a7)) + (((List.length xs10) : Nat) : Int))) ≤ (65515 : Int)))
                        else
                          ret false
                    else
                      ret false
                else
                  ret false
              else
                ret false
            else
              if (decide (a1 = (6 : Int))) = true then
                if (decide ((((ByteArray.size s2) : Nat) : Int) = (16 : Int))) = true then
                  if (decide ((((ByteArray.size s3) : Nat) : Int) = (16 : Int))) = true then
                    if (decide (a6 = (0 : Int))) = true then
                      if (decide (a7 = (0 : Int))) = true then
                        if (!b8) = true then
                          ret (!b9)
                        else
                          ret false
                      else
                        ret false
                    else
                      ret false
                  else
                    ret false
                else
                  ret false
              else
                ret false
      else
        ret false
  else
    ret false
def f85 (k : Nat) (a1 : Int) (s2 : ByteArray) (s3 : ByteArray) (a4 : Int) (a5 : Int) (a6 : Int) (a7 : Int) (b8 : Bool) (b9 : Bool) (xs10 : List Int) : Option Bool := f85.step k some a1 s2 s3 a4 a5 a6 a7 b8 b9 xs10
def f85.w {R : Type} : Bool → (Res env → Option R) → Option R := fun t15 K => K ⟨.v (.c (.s (.bool t15))), [[]]⟩
theorem f85.wn (x : Bool) : ∃ res, ∀ {R : Type} (K : Res env → Option R), f85.w x K = K res := by
  exact ⟨_, fun _ => rfl⟩
def f85.hd (k : Nat) (ps_ : List (P2 env)) : Cl env :=
  gC Cl.no ps_ fun p_ ps_ => qG Cl.no p_ fun cs_ => gC Cl.no cs_ fun c_ cs_ => qS Cl.no c_ fun v_ => vI Cl.no .i64 v_ fun a1 => gC Cl.no cs_ fun c_ cs_ => qS Cl.no c_ fun v_ => vS Cl.no v_ fun s2 => gC Cl.no cs_ fun c_ cs_ => qS Cl.no c_ fun v_ => vS Cl.no v_ fun s3 => gC Cl.no cs_ fun c_ cs_ => qS Cl.no c_ fun v_ => vI Cl.no .i64 v_ fun a4 => gC Cl.no cs_ fun c_ cs_ => qS Cl.no c_ fun v_ => vI Cl.no .i64 v_ fun a5 => gC Cl.no cs_ fun c_ cs_ => qS Cl.no c_ fun v_ => vI Cl.no .i64 v_ fun a6 => gC Cl.no cs_ fun c_ cs_ => qS Cl.no c_ fun v_ => vI Cl.no .i64 v_ fun a7 => gC Cl.no cs_ fun c_ cs_ => qS Cl.no c_ fun v_ => vB Cl.no v_ fun b8 => gC Cl.no cs_ fun c_ cs_ => qS Cl.no c_ fun v_ => vB Cl.no v_ fun b9 => gC Cl.no cs_ fun c_ cs_ => qSl Cl.no 5 c_ fun xs10 => gE Cl.no cs_ <| gE Cl.no ps_ <| { α := Bool, o := f85 k a1 s2 s3 a4 a5 a6 a7 b8 b9 xs10, w := f85.w, nat := fun x _ => f85.wn x }
def f85.e (k : Nat) : Entry env := ⟨fun ps => f85.hd k (coer [[.no, .no, .no, .no, .no, .no, .no, .no, .no, .rd 5]] ps), []⟩
def f85.X (k : Nat) : Ctx env := { C := lookE [(86, f86.e k)], L := lookE [], J := lookE [], keep := lookD [], keepX := lookD [], span := lookN [], eff := fun n => memN n [], prep := lookP [], np := 0 }
theorem f85.nat {R : Type} (k : Nat) (g : Bool → Option R) (a1 : Int) (s2 : ByteArray) (s3 : ByteArray) (a4 : Int) (a5 : Int) (a6 : Int) (a7 : Int) (b8 : Bool) (b9 : Bool) (xs10 : List Int) : f85.step k g a1 s2 s3 a4 a5 a6 a7 b8 b9 xs10 = (f85 k a1 s2 s3 a4 a5 a6 a7 b8 b9 xs10).bind g := by
  simp only [f85, f85.step, bind_ite, bind_sum, Option.bind_assoc, Option.bind_some, Option.bind_none]
theorem f85.ev (k : Nat) (a1 : Int) (s2 : ByteArray) (s3 : ByteArray) (a4 : Int) (a5 : Int) (a6 : Int) (a7 : Int) (b8 : Bool) (b9 : Bool) (xs10 : List Int) : evF (f85.X k) (bodyOf Try.f85) Try.f85.ntmps Try.f85.results.toList [.g [.s (.int .i64 a1), .s (.string s2), .s (.string s3), .s (.int .i64 a4), .s (.int .i64 a5), .s (.int .i64 a6), .s (.int .i64 a7), .s (.bool b8), .s (.bool b9), .sl 5 xs10]] = f85.step k (fun x => f85.w x some) a1 s2 s3 a4 a5 a6 a7 b8 b9 xs10 := by kernel_rfl
theorem f85.hok (k : Nat) : HOK (f85.X k) (bodyOf Try.f85) where
  l := allP_mem (by exact trivial)
  j := allP_mem (by exact trivial)
theorem f85.sound0 (k : Nat) : SoundC env Try.prog 85 (f85.hd k) := by
  intro ps_
  show GoodC _ _ _ ps_ (f85.hd k ps_)
  unfold f85.hd
  refine gC_ok (p := GoodC env Try.prog 85 _) goodC_no fun _ _ h => ?_
  subst h
  refine qG_ok (p := GoodC env Try.prog 85 _) goodC_no fun _ h => ?_
  subst h
  refine gC_ok (p := GoodC env Try.prog 85 _) goodC_no fun _ _ h => ?_
  subst h
  refine qS_ok (p := GoodC env Try.prog 85 _) goodC_no fun _ h => ?_
  subst h
  refine vI_ok (p := GoodC env Try.prog 85 _) goodC_no fun _ h => ?_
  subst h
  refine gC_ok (p := GoodC env Try.prog 85 _) goodC_no fun _ _ h => ?_
  subst h
  refine qS_ok (p := GoodC env Try.prog 85 _) goodC_no fun _ h => ?_
  subst h
  refine vS_ok (p := GoodC env Try.prog 85 _) goodC_no fun _ h => ?_
  subst h
  refine gC_ok (p := GoodC env Try.prog 85 _) goodC_no fun _ _ h => ?_
  subst h
  refine qS_ok (p := GoodC env Try.prog 85 _) goodC_no fun _ h => ?_
  subst h
  refine vS_ok (p := GoodC env Try.prog 85 _) goodC_no fun _ h => ?_
  subst h
  refine gC_ok (p := GoodC env Try.prog 85 _) goodC_no fun _ _ h => ?_
  subst h
  refine qS_ok (p := GoodC env Try.prog 85 _) goodC_no fun _ h => ?_
  subst h
  refine vI_ok (p := GoodC env Try.prog 85 _) goodC_no fun _ h => ?_
  subst h
  refine gC_ok (p := GoodC env Try.prog 85 _) goodC_no fun _ _ h => ?_
  subst h
  refine qS_ok (p := GoodC env Try.prog 85 _) goodC_no fun _ h => ?_
  subst h
  refine vI_ok (p := GoodC env Try.prog 85 _) goodC_no fun _ h => ?_
  subst h
  refine gC_ok (p := GoodC env Try.prog 85 _) goodC_no fun _ _ h => ?_
  subst h
  refine qS_ok (p := GoodC env Try.prog 85 _) goodC_no fun _ h => ?_
  subst h
  refine vI_ok (p := GoodC env Try.prog 85 _) goodC_no fun _ h => ?_
  subst h
  refine gC_ok (p := GoodC env Try.prog 85 _) goodC_no fun _ _ h => ?_
  subst h
  refine qS_ok (p := GoodC env Try.prog 85 _) goodC_no fun _ h => ?_
  subst h
  refine vI_ok (p := GoodC env Try.prog 85 _) goodC_no fun _ h => ?_
  subst h
  refine gC_ok (p := GoodC env Try.prog 85 _) goodC_no fun _ _ h => ?_
  subst h
  refine qS_ok (p := GoodC env Try.prog 85 _) goodC_no fun _ h => ?_
  subst h
  refine vB_ok (p := GoodC env Try.prog 85 _) goodC_no fun _ h => ?_
  subst h
  refine gC_ok (p := GoodC env Try.prog 85 _) goodC_no fun _ _ h => ?_
  subst h
  refine qS_ok (p := GoodC env Try.prog 85 _) goodC_no fun _ h => ?_
  subst h
  refine vB_ok (p := GoodC env Try.prog 85 _) goodC_no fun _ h => ?_
  subst h
  refine gC_ok (p := GoodC env Try.prog 85 _) goodC_no fun _ _ h => ?_
  subst h
  refine qSl_ok (p := GoodC env Try.prog 85 _) goodC_no fun _ h => ?_
  subst h
  refine gE_ok (p := GoodC env Try.prog 85 _) goodC_no fun h => ?_
  subst h
  refine gE_ok (p := GoodC env Try.prog 85 _) goodC_no fun h => ?_
  subst h
  exact fun_good (fun_sound envOK (cs_sound _ (by exact ⟨⟨f86.sound k, f86.fnok⟩, trivial⟩)) (f85.hok k) Try.func85 rfl) ((f85.ev k _ _ _ _ _ _ _ _ _ _).trans (f85.nat k _ _ _ _ _ _ _ _ _ _ _))
theorem f85.sound (k : Nat) : SoundC env Try.prog 85 (f85.e k).F := soundC_coer (f85.sound0 k) [[.no, .no, .no, .no, .no, .no, .no, .no, .no, .rd 5]]
theorem f85.says (k : Nat) (a1 : Int) (s2 : ByteArray) (s3 : ByteArray) (a4 : Int) (a5 : Int) (a6 : Int) (a7 : Int) (b8 : Bool) (b9 : Bool) (xs10 : List Int) (t16 : Bool) (h_ : f85 k a1 s2 s3 a4 a5 a6 a7 b8 b9 xs10 = some t16) : SoundAt env Try.prog 85 [.g [.s (.int .i64 a1), .s (.string s2), .s (.string s3), .s (.int .i64 a4), .s (.int .i64 a5), .s (.int .i64 a6), .s (.int .i64 a7), .s (.bool b8), .s (.bool b9), .sl 5 xs10]] ⟨.v (.c (.s (.bool t16))), [[]]⟩ :=
  fun_sound envOK (cs_sound _ (by exact ⟨⟨f86.sound k, f86.fnok⟩, trivial⟩)) (f85.hok k) Try.func85 rfl _ _ (((f85.ev k a1 s2 s3 a4 a5 a6 a7 b8 b9 xs10).trans (f85.nat k _ a1 s2 s3 a4 a5 a6 a7 b8 b9 xs10)).trans (by rw [h_]; rfl))
theorem f85.fnok : FnOK Try.prog 85 := fn_ok Try.func85 (by kernel_rfl) rfl
def f146.step {R : Type} (k : Nat) (ret : (Int × ByteArray × ByteArray × Int × Int × Int × Int × Bool × Bool × (List Int)) → Option R) (a1 : Int) (s2 : ByteArray) (s3 : ByteArray) (a4 : Int) (a5 : Int) (a6 : Int) (a7 : Int) (b8 : Bool) (b9 : Bool) (xs10 : List Int) : Option R :=
  if (List.length ([] : List Int) + List.length xs10) * 1 ≤ maxN then
    ret (a1, s2, s3, a4, a5, a6, a7, b8, b9, (([] : List Int) ++ xs10))
  else none
def f146 (k : Nat) (a1 : Int) (s2 : ByteArray) (s3 : ByteArray) (a4 : Int) (a5 : Int) (a6 : Int) (a7 : Int) (b8 : Bool) (b9 : Bool) (xs10 : List Int) : Option (Int × ByteArray × ByteArray × Int × Int × Int × Int × Bool × Bool × (List Int)) := f146.step k some a1 s2 s3 a4 a5 a6 a7 b8 b9 xs10
def f146.w {R : Type} : (Int × ByteArray × ByteArray × Int × Int × Int × Int × Bool × Bool × (List Int)) → (Res env → Option R) → Option R := fun t11 K => K ⟨.v (.g [.s (.int .i64 t11.1), .s (.string t11.2.1), .s (.string t11.2.2.1), .s (.int .i64 t11.2.2.2.1), .s (.int .i64 t11.2.2.2.2.1), .s (.int .i64 t11.2.2.2.2.2.1), .s (.int .i64 t11.2.2.2.2.2.2.1), .s (.bool t11.2.2.2.2.2.2.2.1), .s (.bool t11.2.2.2.2.2.2.2.2.1), .own true 5 t11.2.2.2.2.2.2.2.2.2]), [[]]⟩
theorem f146.wn (x : (Int × ByteArray × ByteArray × Int × Int × Int × Int × Bool × Bool × (List Int))) : ∃ res, ∀ {R : Type} (K : Res env → Option R), f146.w x K = K res := by
  exact ⟨_, fun _ => rfl⟩
def f146.hd (k : Nat) (ps_ : List (P2 env)) : Cl env :=
  gC Cl.no ps_ fun p_ ps_ => qG Cl.no p_ fun cs_ => gC Cl.no cs_ fun c_ cs_ => qS Cl.no c_ fun v_ => vI Cl.no .i64 v_ fun a1 => gC Cl.no cs_ fun c_ cs_ => qS Cl.no c_ fun v_ => vS Cl.no v_ fun s2 => gC Cl.no cs_ fun c_ cs_ => qS Cl.no c_ fun v_ => vS Cl.no v_ fun s3 => gC Cl.no cs_ fun c_ cs_ => qS Cl.no c_ fun v_ => vI Cl.no .i64 v_ fun a4 => gC Cl.no cs_ fun c_ cs_ => qS Cl.no c_ fun v_ => vI Cl.no .i64 v_ fun a5 => gC Cl.no cs_ fun c_ cs_ => qS Cl.no c_ fun v_ => vI Cl.no .i64 v_ fun a6 => gC Cl.no cs_ fun c_ cs_ => qS Cl.no c_ fun v_ => vI Cl.no .i64 v_ fun a7 => gC Cl.no cs_ fun c_ cs_ => qS Cl.no c_ fun v_ => vB Cl.no v_ fun b8 => gC Cl.no cs_ fun c_ cs_ => qS Cl.no c_ fun v_ => vB Cl.no v_ fun b9 => gC Cl.no cs_ fun c_ cs_ => qSl Cl.no 5 c_ fun xs10 => gE Cl.no cs_ <| gE Cl.no ps_ <| { α := Int × ByteArray × ByteArray × Int × Int × Int × Int × Bool × Bool × (List Int), o := f146 k a1 s2 s3 a4 a5 a6 a7 b8 b9 xs10, w := f146.w, nat := fun x _ => f146.wn x }
def f146.e (k : Nat) : Entry env := ⟨fun ps => f146.hd k (coer [[.no, .no, .no, .no, .no, .no, .no, .no, .no, .rd 5]] ps), []⟩
def f146.X (k : Nat) : Ctx env := { C := lookE [], L := lookE [], J := lookE [], keep := lookD [], keepX := lookD [], span := lookN [], eff := fun n => memN n [], prep := lookP [], np := 0 }
theorem f146.nat {R : Type} (k : Nat) (g : (Int × ByteArray × ByteArray × Int × Int × Int × Int × Bool × Bool × (List Int)) → Option R) (a1 : Int) (s2 : ByteArray) (s3 : ByteArray) (a4 : Int) (a5 : Int) (a6 : Int) (a7 : Int) (b8 : Bool) (b9 : Bool) (xs10 : List Int) : f146.step k g a1 s2 s3 a4 a5 a6 a7 b8 b9 xs10 = (f146 k a1 s2 s3 a4 a5 a6 a7 b8 b9 xs10).bind g := by
  simp only [f146, f146.step, bind_ite, bind_sum, Option.bind_assoc, Option.bind_some, Option.bind_none]
theorem f146.ev (k : Nat) (a1 : Int) (s2 : ByteArray) (s3 : ByteArray) (a4 : Int) (a5 : Int) (a6 : Int) (a7 : Int) (b8 : Bool) (b9 : Bool) (xs10 : List Int) : evF (f146.X k) (bodyOf Try.f146) Try.f146.ntmps Try.f146.results.toList [.g [.s (.int .i64 a1), .s (.string s2), .s (.string s3), .s (.int .i64 a4), .s (.int .i64 a5), .s (.int .i64 a6), .s (.int .i64 a7), .s (.bool b8), .s (.bool b9), .sl 5 xs10]] = f146.step k (fun x => f146.w x some) a1 s2 s3 a4 a5 a6 a7 b8 b9 xs10 := by kernel_rfl
theorem f146.hok (k : Nat) : HOK (f146.X k) (bodyOf Try.f146) where
  l := allP_mem (by exact trivial)
  j := allP_mem (by exact trivial)
theorem f146.sound0 (k : Nat) : SoundC env Try.prog 146 (f146.hd k) := by
  intro ps_
  show GoodC _ _ _ ps_ (f146.hd k ps_)
  unfold f146.hd
  refine gC_ok (p := GoodC env Try.prog 146 _) goodC_no fun _ _ h => ?_
  subst h
  refine qG_ok (p := GoodC env Try.prog 146 _) goodC_no fun _ h => ?_
  subst h
  refine gC_ok (p := GoodC env Try.prog 146 _) goodC_no fun _ _ h => ?_
  subst h
  refine qS_ok (p := GoodC env Try.prog 146 _) goodC_no fun _ h => ?_
  subst h
  refine vI_ok (p := GoodC env Try.prog 146 _) goodC_no fun _ h => ?_
  subst h
  refine gC_ok (p := GoodC env Try.prog 146 _) goodC_no fun _ _ h => ?_
  subst h
  refine qS_ok (p := GoodC env Try.prog 146 _) goodC_no fun _ h => ?_
  subst h
  refine vS_ok (p := GoodC env Try.prog 146 _) goodC_no fun _ h => ?_
  subst h
  refine gC_ok (p := GoodC env Try.prog 146 _) goodC_no fun _ _ h => ?_
  subst h
  refine qS_ok (p := GoodC env Try.prog 146 _) goodC_no fun _ h => ?_
  subst h
  refine vS_ok (p := GoodC env Try.prog 146 _) goodC_no fun _ h => ?_
  subst h
  refine gC_ok (p := GoodC env Try.prog 146 _) goodC_no fun _ _ h => ?_
  subst h
  refine qS_ok (p := GoodC env Try.prog 146 _) goodC_no fun _ h => ?_
  subst h
  refine vI_ok (p := GoodC env Try.prog 146 _) goodC_no fun _ h => ?_
  subst h
  refine gC_ok (p := GoodC env Try.prog 146 _) goodC_no fun _ _ h => ?_
  subst h
  refine qS_ok (p := GoodC env Try.prog 146 _) goodC_no fun _ h => ?_
  subst h
  refine vI_ok (p := GoodC env Try.prog 146 _) goodC_no fun _ h => ?_
  subst h
  refine gC_ok (p := GoodC env Try.prog 146 _) goodC_no fun _ _ h => ?_
  subst h
  refine qS_ok (p := GoodC env Try.prog 146 _) goodC_no fun _ h => ?_
  subst h
  refine vI_ok (p := GoodC env Try.prog 146 _) goodC_no fun _ h => ?_
  subst h
  refine gC_ok (p := GoodC env Try.prog 146 _) goodC_no fun _ _ h => ?_
  subst h
  refine qS_ok (p := GoodC env Try.prog 146 _) goodC_no fun _ h => ?_
  subst h
  refine vI_ok (p := GoodC env Try.prog 146 _) goodC_no fun _ h => ?_
  subst h
  refine gC_ok (p := GoodC env Try.prog 146 _) goodC_no fun _ _ h => ?_
  subst h
  refine qS_ok (p := GoodC env Try.prog 146 _) goodC_no fun _ h => ?_
  subst h
  refine vB_ok (p := GoodC env Try.prog 146 _) goodC_no fun _ h => ?_
  subst h
  refine gC_ok (p := GoodC env Try.prog 146 _) goodC_no fun _ _ h => ?_
  subst h
  refine qS_ok (p := GoodC env Try.prog 146 _) goodC_no fun _ h => ?_
  subst h
  refine vB_ok (p := GoodC env Try.prog 146 _) goodC_no fun _ h => ?_
  subst h
  refine gC_ok (p := GoodC env Try.prog 146 _) goodC_no fun _ _ h => ?_
  subst h
  refine qSl_ok (p := GoodC env Try.prog 146 _) goodC_no fun _ h => ?_
  subst h
  refine gE_ok (p := GoodC env Try.prog 146 _) goodC_no fun h => ?_
  subst h
  refine gE_ok (p := GoodC env Try.prog 146 _) goodC_no fun h => ?_
  subst h
  exact fun_good (fun_sound envOK (cs_sound _ (by exact trivial)) (f146.hok k) Try.func146 rfl) ((f146.ev k _ _ _ _ _ _ _ _ _ _).trans (f146.nat k _ _ _ _ _ _ _ _ _ _ _))
theorem f146.sound (k : Nat) : SoundC env Try.prog 146 (f146.e k).F := soundC_coer (f146.sound0 k) [[.no, .no, .no, .no, .no, .no, .no, .no, .no, .rd 5]]
theorem f146.says (k : Nat) (a1 : Int) (s2 : ByteArray) (s3 : ByteArray) (a4 : Int) (a5 : Int) (a6 : Int) (a7 : Int) (b8 : Bool) (b9 : Bool) (xs10 : List Int) (t12 : Int × ByteArray × ByteArray × Int × Int × Int × Int × Bool × Bool × (List Int)) (h_ : f146 k a1 s2 s3 a4 a5 a6 a7 b8 b9 xs10 = some t12) : SoundAt env Try.prog 146 [.g [.s (.int .i64 a1), .s (.string s2), .s (.string s3), .s (.int .i64 a4), .s (.int .i64 a5), .s (.int .i64 a6), .s (.int .i64 a7), .s (.bool b8), .s (.bool b9), .sl 5 xs10]] ⟨.v (.g [.s (.int .i64 t12.1), .s (.string t12.2.1), .s (.string t12.2.2.1), .s (.int .i64 t12.2.2.2.1), .s (.int .i64 t12.2.2.2.2.1), .s (.int .i64 t12.2.2.2.2.2.1), .s (.int .i64 t12.2.2.2.2.2.2.1), .s (.bool t12.2.2.2.2.2.2.2.1), .s (.bool t12.2.2.2.2.2.2.2.2.1), .own true 5 t12.2.2.2.2.2.2.2.2.2]), [[]]⟩ :=
  fun_sound envOK (cs_sound _ (by exact trivial)) (f146.hok k) Try.func146 rfl _ _ (((f146.ev k a1 s2 s3 a4 a5 a6 a7 b8 b9 xs10).trans (f146.nat k _ a1 s2 s3 a4 a5 a6 a7 b8 b9 xs10)).trans (by rw [h_]; rfl))
theorem f146.fnok : FnOK Try.prog 146 := fn_ok Try.func146 (by kernel_rfl) rfl
def f87.l6.step {R : Type} (k : Nat) (rec_ : Int → Int → Int → Int → ByteArray → ByteArray → Int → Int → Int → Int → Bool → Bool → (List Int) → (List S24) → Option R) (ret : ((List S24)) → Option R) (a13 : Int) (a14 : Int) (a15 : Int) (a16 : Int) (s17 : ByteArray) (s18 : ByteArray) (a19 : Int) (a20 : Int) (a21 : Int) (a22 : Int) (b23 : Bool) (b24 : Bool) (xs25 : List Int) (xs26 : List S24) : Option R :=
  if (decide (a15 < (((List.length xs25) : Nat) : Int))) = true then
    if (decide ((IntKind.i64.wrap ((((List.length xs25) : Nat) : Int) - a15)) ≤ (IntKind.i64.wrap (a13 - (20 : Int))))) = true then
      if (0 : Int) ≤ a15 then
        if a15 ≤ (((List.length xs25) : Nat) : Int) then
          if (((List.length xs25) : Nat) : Int) ≤ ((List.length xs25 : Nat) : Int) then
            if (List.length ([] : List Int) + List.length (List.drop (Int.toNat a15) (List.take (Int.toNat (((List.length xs25) : Nat) : Int)) xs25))) * 1 ≤ maxN then
              if b23 = false then
                if (List.length xs26 + List.length ([(⟨a16, s17, s18, a19, a20, a21, (IntKind.i64.wrap (a22 + (IntKind.i64.wrap (Int.tdiv a15 (8 : Int))))), (decide ((((List.length xs25) : Nat) : Int) < (((List.length xs25) : Nat) : Int))), b24, (([] : List Int) ++ (List.drop (Int.toNat a15) (List.take (Int.toNat (((List.length xs25) : Nat) : Int)) xs25)))⟩ : S24)] : List S24)) * 104 ≤ maxN then
                  rec_ a13 (IntKind.i64.wrap ((((List.length xs25) : Nat) : Int) - a15)) (IntKind.i64.wrap (a15 + (IntKind.i64.wrap ((((List.length xs25) : Nat) : Int) - a15)))) a16 s17 s18 a19 a20 a21 a22 b23 b24 xs25 (xs26 ++ ([(⟨a16, s17, s18, a19, a20, a21, (IntKind.i64.wrap (a22 + (IntKind.i64.wrap (Int.tdiv a15 (8 : Int))))), (decide ((((List.length xs25) : Nat) : Int) < (((List.length xs25) : Nat) : Int))), b24, (([] : List Int) ++ (List.drop (Int.toNat a15) (List.take (Int.toNat (((List.length xs25) : Nat) : Int)) xs25)))⟩ : S24)] : List S24))
                else none
              else
                if (List.length xs26 + List.length ([(⟨a16, s17, s18, a19, a20, a21, (IntKind.i64.wrap (a22 + (IntKind.i64.wrap (Int.tdiv a15 (8 : Int))))), true, b24, (([] : List Int) ++ (List.drop (Int.toNat a15) (List.take (Int.toNat (((List.length xs25) : Nat) : Int)) xs25)))⟩ : S24)] : List S24)) * 104 ≤ maxN then
                  rec_ a13 (IntKind.i64.wrap ((((List.length xs25) : Nat) : Int) - a15)) (IntKind.i64.wrap (a15 + (IntKind.i64.wrap ((((List.length xs25) : Nat) : Int) - a15)))) a16 s17 s18 a19 a20 a21 a22 b23 b24 xs25 (xs26 ++ ([(⟨a16, s17, s18, a19, a20, a21, (IntKind.i64.wrap (a22 + (IntKind.i64.wrap (Int.tdiv a15 (8 : Int))))), true, b24, (([] : List Int) ++ (List.drop (Int.toNat a15) (List.take (Int.toNat (((List.length xs25) : Nat) : Int)) xs25)))⟩ : S24)] : List S24))
                else none
            else none
          else none
        else none
      else none
    else
      if (0 : Int) ≤ a15 then
        if a15 ≤ (if (((List.length xs25) : Nat) : Int) < (IntKind.i64.wrap (a15 + a14)) then (((List.length xs25) : Nat) : Int) else (IntKind.i64.wrap (a15 + a14))) then
          if (if (((List.length xs25) : Nat) : Int) < (IntKind.i64.wrap (a15 + a14)) then (((List.length xs25) : Nat) : Int) else (IntKind.i64.wrap (a15 + a14))) ≤ ((List.length xs25 : Nat) : Int) then
            if (List.length ([] : List Int) + List.length (List.drop (Int.toNat a15) (List.take (Int.toNat (if (((List.length xs25) : Nat) : Int) < (IntKind.i64.wrap (a15 + a14)) then (((List.length xs25) : Nat) : Int) else (IntKind.i64.wrap (a15 + a14)))) xs25))) * 1 ≤ maxN then
              if b23 = false then
                if (List.length xs26 + List.length ([(⟨a16, s17, s18, a19, a20, a21, (IntKind.i64.wrap (a22 + (IntKind.i64.wrap (Int.tdiv a15 (8 : Int))))), (decide ((if (((List.length xs25) : Nat) : Int) < (IntKind.i64.wrap (a15 + a14)) then (((List.length xs25) : Nat) : Int) else (IntKind.i64.wrap (a15 + a14))) < (((List.length xs25) : Nat) : Int))), b24, (([] : List Int) ++ (List.drop (Int.toNat a15) (List.take (Int.toNat (if (((List.length xs25) : Nat) : Int) < (IntKind.i64.wrap (a15 + a14)) then (((List.length xs25) : Nat) : Int) else (IntKind.i64.wrap (a15 + a14)))) xs25)))⟩ : S24)] : List S24)) * 104 ≤ maxN then
                  rec_ a13 a14 (IntKind.i64.wrap (a15 + a14)) a16 s17 s18 a19 a20 a21 a22 b23 b24 xs25 (xs26 ++ ([(⟨a16, s17, s18, a19, a20, a21, (IntKind.i64.wrap (a22 + (IntKind.i64.wrap (Int.tdiv a15 (8 : Int))))), (decide ((if (((List.length xs25) : Nat) : Int) < (IntKind.i64.wrap (a15 + a14)) then (((List.length xs25) : Nat) : Int) else (IntKind.i64.wrap (a15 + a14))) < (((List.length xs25) : Nat) : Int))), b24, (([] : List Int) ++ (List.drop (Int.toNat a15) (List.take (Int.toNat (if (((List.length xs25) : Nat) : Int) < (IntKind.i64.wrap (a15 + a14)) then (((List.length xs25) : Nat) : Int) else (IntKind.i64.wrap (a15 + a14)))) xs25)))⟩ : S24)] : List S24))
                else none
              else
                if (List.length xs26 + List.length ([(⟨a16, s17, s18, a19, a20, a21, (IntKind.i64.wrap (a22 + (IntKind.i64.wrap (Int.tdiv a15 (8 : Int))))), true, b24, (([] : List Int) ++ (List.drop (Int.toNat a15) (List.take (Int.toNat (if (((List.length xs25) : Nat) : Int) < (IntKind.i64.wrap (a15 + a14)) then (((List.length xs25) : Nat) : Int) else (IntKind.i64.wrap (a15 + a14)))) xs25)))⟩ : S24)] : List S24)) * 104 ≤ maxN then
                  rec_ a13 a14 (IntKind.i64.wrap (a15 + a14)) a16 s17 s18 a19 a20 a21 a22 b23 b24 xs25 (xs26 ++ ([(⟨a16, s17, s18, a19, a20, a21, (IntKind.i64.wrap (a22 + (IntKind.i64.wrap (Int.tdiv a15 (8 : Int))))), true, b24, (([] : List Int) ++ (List.drop (Int.toNat a15) (List.take (Int.toNat (if (((List.length xs25) : Nat) : Int) < (IntKind.i64.wrap (a15 + a14)) then (((List.length xs25) : Nat) : Int) else (IntKind.i64.wrap (a15 + a14)))) xs25)))⟩ : S24)] : List S24))
                else none
            else none
          else none
        else none
      else none
  else
    ret xs26
def f87.l6 (k : Nat) : Nat → Int → Int → Int → Int → ByteArray → ByteArray → Int → Int → Int → Int → Bool → Bool → (List Int) → (List S24) → Option ((List S24))
  | 0, _, _, _, _, _, _, _, _, _, _, _, _, _, _ => none
  | j + 1, a13, a14, a15, a16, s17, s18, a19, a20, a21, a22, b23, b24, xs25, xs26 => f87.l6.step k (fun a13 a14 a15 a16 s17 s18 a19 a20 a21 a22 b23 b24 xs25 xs26 => f87.l6 k j a13 a14 a15 a16 s17 s18 a19 a20 a21 a22 b23 b24 xs25 xs26) some a13 a14 a15 a16 s17 s18 a19 a20 a21 a22 b23 b24 xs25 xs26
def f87.l6.w {R : Type} : ((List S24)) → (Exit → St env → Option R) → Option R := fun t28 K => K (.exit 0) ⟨fullT [6] 0 85 [.v (.c (.row 210))], [(210, .row true 24 t28)], 1378⟩
def f87.l6.st (a13 : Int) (a14 : Int) (a15 : Int) (a16 : Int) (s17 : ByteArray) (s18 : ByteArray) (a19 : Int) (a20 : Int) (a21 : Int) (a22 : Int) (b23 : Bool) (b24 : Bool) (xs25 : List Int) (xs26 : List S24) : St env := ⟨fullT [1, 2, 5, 6, 7] 0 85 [.v (.c (.s (.int .i64 a13))), .v (.c (.bp 2 0)), .v (.c (.s (.int .i64 a14))), .v (.c (.row 210)), .v (.c (.s (.int .i64 a15)))], [(2, .box [.s (.int .i64 a16), .s (.string s17), .s (.string s18), .s (.int .i64 a19), .s (.int .i64 a20), .s (.int .i64 a21), .s (.int .i64 a22), .s (.bool b23), .s (.bool b24), .imm 5 xs25]), (210, .row true 24 xs26)], 258⟩
def f87.l6.hd (k : Nat) (ts_ : List (AV env)) (mm_ : Mem env) (n_ : Nat) : LCl env :=
  gTs LCl.no [1, 2, 5, 6, 7] 85 ts_ fun l_ => gV LCl.no l_ fun a_ l_ => rV LCl.no a_ fun v_ => vI LCl.no .i64 v_ fun a13 => gV LCl.no l_ fun a_ l_ => rBp LCl.no 2 0 a_ <| gV LCl.no l_ fun a_ l_ => rV LCl.no a_ fun v_ => vI LCl.no .i64 v_ fun a14 => gV LCl.no l_ fun a_ l_ => rRow LCl.no 210 a_ <| gV LCl.no l_ fun a_ l_ => rV LCl.no a_ fun v_ => vI LCl.no .i64 v_ fun a15 => gE LCl.no l_ <| mBox LCl.no 2 mm_ fun c_ m_ => gC LCl.no c_ fun a_ c_ => rV LCl.no a_ fun v_ => vI LCl.no .i64 v_ fun a16 => gC LCl.no c_ fun a_ c_ => rV LCl.no a_ fun v_ => vS LCl.no v_ fun s17 => gC LCl.no c_ fun a_ c_ => rV LCl.no a_ fun v_ => vS LCl.no v_ fun s18 => gC LCl.no c_ fun a_ c_ => rV LCl.no a_ fun v_ => vI LCl.no .i64 v_ fun a19 => gC LCl.no c_ fun a_ c_ => rV LCl.no a_ fun v_ => vI LCl.no .i64 v_ fun a20 => gC LCl.no c_ fun a_ c_ => rV LCl.no a_ fun v_ => vI LCl.no .i64 v_ fun a21 => gC LCl.no c_ fun a_ c_ => rV LCl.no a_ fun v_ => vI LCl.no .i64 v_ fun a22 => gC LCl.no c_ fun a_ c_ => rV LCl.no a_ fun v_ => vB LCl.no v_ fun b23 => gC LCl.no c_ fun a_ c_ => rV LCl.no a_ fun v_ => vB LCl.no v_ fun b24 => gC LCl.no c_ fun a_ c_ => rImm LCl.no 5 a_ fun xs25 => gE LCl.no c_ <| mRow LCl.no 210 true 24 m_ fun xs26 m_ => gE LCl.no m_ <| gN LCl.no 258 n_ { α := (List S24), o := f87.l6 k k a13 a14 a15 a16 s17 s18 a19 a20 a21 a22 b23 b24 xs25 xs26, w := f87.l6.w }
def f87.step {R : Type} (k : Nat) (ret : ((List S24)) → Option R) (a1 : Int) (s2 : ByteArray) (s3 : ByteArray) (a4 : Int) (a5 : Int) (a6 : Int) (a7 : Int) (b8 : Bool) (b9 : Bool) (xs10 : List Int) (a11 : Int) : Option R :=
  if (decide ((IntKind.i64.wrap ((20 : Int) + (((List.length xs10) : Nat) : Int))) ≤ a11)) = true then
    (f146 k a1 s2 s3 a4 a5 a6 a7 b8 b9 xs10).bind fun t12 => ret ([(⟨t12.1, t12.2.1, t12.2.2.1, t12.2.2.2.1, t12.2.2.2.2.1, t12.2.2.2.2.2.1, t12.2.2.2.2.2.2.1, t12.2.2.2.2.2.2.2.1, t12.2.2.2.2.2.2.2.2.1, t12.2.2.2.2.2.2.2.2.2⟩ : S24)] : List S24)
  else
    (f87.l6 k k a11 (IntKind.i64.wrap ((IntKind.i64.wrap (Int.tdiv (IntKind.i64.wrap (a11 - (20 : Int))) (8 : Int))) * (8 : Int))) (0 : Int) a1 s2 s3 a4 a5 a6 a7 b8 b9 xs10 ([] : List S24)).bind fun t27 => ret t27
def f87 (k : Nat) (a1 : Int) (s2 : ByteArray) (s3 : ByteArray) (a4 : Int) (a5 : Int) (a6 : Int) (a7 : Int) (b8 : Bool) (b9 : Bool) (xs10 : List Int) (a11 : Int) : Option ((List S24)) := f87.step k some a1 s2 s3 a4 a5 a6 a7 b8 b9 xs10 a11
def f87.w {R : Type} : ((List S24)) → (Res env → Option R) → Option R := fun t29 K => K ⟨.v (.c (.own true 24 t29)), [[], []]⟩
theorem f87.wn (x : ((List S24))) : ∃ res, ∀ {R : Type} (K : Res env → Option R), f87.w x K = K res := by
  exact ⟨_, fun _ => rfl⟩
def f87.hd (k : Nat) (ps_ : List (P2 env)) : Cl env :=
  gC Cl.no ps_ fun p_ ps_ => qG Cl.no p_ fun cs_ => gC Cl.no cs_ fun c_ cs_ => qS Cl.no c_ fun v_ => vI Cl.no .i64 v_ fun a1 => gC Cl.no cs_ fun c_ cs_ => qS Cl.no c_ fun v_ => vS Cl.no v_ fun s2 => gC Cl.no cs_ fun c_ cs_ => qS Cl.no c_ fun v_ => vS Cl.no v_ fun s3 => gC Cl.no cs_ fun c_ cs_ => qS Cl.no c_ fun v_ => vI Cl.no .i64 v_ fun a4 => gC Cl.no cs_ fun c_ cs_ => qS Cl.no c_ fun v_ => vI Cl.no .i64 v_ fun a5 => gC Cl.no cs_ fun c_ cs_ => qS Cl.no c_ fun v_ => vI Cl.no .i64 v_ fun a6 => gC Cl.no cs_ fun c_ cs_ => qS Cl.no c_ fun v_ => vI Cl.no .i64 v_ fun a7 => gC Cl.no cs_ fun c_ cs_ => qS Cl.no c_ fun v_ => vB Cl.no v_ fun b8 => gC Cl.no cs_ fun c_ cs_ => qS Cl.no c_ fun v_ => vB Cl.no v_ fun b9 => gC Cl.no cs_ fun c_ cs_ => qSl Cl.no 5 c_ fun xs10 => gE Cl.no cs_ <| gC Cl.no ps_ fun p_ ps_ => qC Cl.no p_ fun c_ => qS Cl.no c_ fun v_ => vI Cl.no .i64 v_ fun a11 => gE Cl.no ps_ <| { α := (List S24), o := f87 k a1 s2 s3 a4 a5 a6 a7 b8 b9 xs10 a11, w := f87.w, nat := fun x _ => f87.wn x }
def f87.e (k : Nat) : Entry env := ⟨fun ps => f87.hd k (coer [[.no, .no, .no, .no, .no, .no, .no, .no, .no, .rd 5], [.no]] ps), []⟩
def f87.X (k : Nat) : Ctx env := { C := lookE [(146, f146.e k)], L := lookE [(6, fun S => f87.l6.hd k S.ts S.m S.n)], J := lookE [], keep := lookD [(6, [1, 2, 5, 6, 7])], keepX := lookD [(6, [6])], span := lookN [(6, 1120)], eff := fun n => memN n [], prep := lookP [], np := 0 }
theorem f87.l6.nat {R : Type} (k : Nat) (rec_ : Int → Int → Int → Int → ByteArray → ByteArray → Int → Int → Int → Int → Bool → Bool → (List Int) → (List S24) → Option ((List S24))) (g : ((List S24)) → Option R) (a13 : Int) (a14 : Int) (a15 : Int) (a16 : Int) (s17 : ByteArray) (s18 : ByteArray) (a19 : Int) (a20 : Int) (a21 : Int) (a22 : Int) (b23 : Bool) (b24 : Bool) (xs25 : List Int) (xs26 : List S24) : (f87.l6.step k rec_ some a13 a14 a15 a16 s17 s18 a19 a20 a21 a22 b23 b24 xs25 xs26).bind g = f87.l6.step k (fun a13 a14 a15 a16 s17 s18 a19 a20 a21 a22 b23 b24 xs25 xs26 => (rec_ a13 a14 a15 a16 s17 s18 a19 a20 a21 a22 b23 b24 xs25 xs26).bind g) g a13 a14 a15 a16 s17 s18 a19 a20 a21 a22 b23 b24 xs25 xs26 := by
  simp only [f87.l6.step, bind_ite, bind_sum, Option.bind_assoc, Option.bind_some, Option.bind_none]
theorem f87.l6.good (k : Nat) (a13 : Int) (a14 : Int) (a15 : Int) (a16 : Int) (s17 : ByteArray) (s18 : ByteArray) (a19 : Int) (a20 : Int) (a21 : Int) (a22 : Int) (b23 : Bool) (b24 : Bool) (xs25 : List Int) (xs26 : List S24) : GoodL (f87.X k) (nthC 0 (loopsOf (bodyOf Try.f87))) (f87.l6.st a13 a14 a15 a16 s17 s18 a19 a20 a21 a22 b23 b24 xs25 xs26) { α := ((List S24)), o := f87.l6 k k a13 a14 a15 a16 s17 s18 a19 a20 a21 a22 b23 b24 xs25 xs26, w := f87.l6.w } :=
  loop_good (ι := Int × Int × Int × Int × ByteArray × ByteArray × Int × Int × Int × Int × Bool × Bool × (List Int) × (List S24)) (α := ((List S24))) (fun i => f87.l6.st i.1 i.2.1 i.2.2.1 i.2.2.2.1 i.2.2.2.2.1 i.2.2.2.2.2.1 i.2.2.2.2.2.2.1 i.2.2.2.2.2.2.2.1 i.2.2.2.2.2.2.2.2.1 i.2.2.2.2.2.2.2.2.2.1 i.2.2.2.2.2.2.2.2.2.2.1 i.2.2.2.2.2.2.2.2.2.2.2.1 i.2.2.2.2.2.2.2.2.2.2.2.2.1 i.2.2.2.2.2.2.2.2.2.2.2.2.2) (fun j i => f87.l6 k j i.1 i.2.1 i.2.2.1 i.2.2.2.1 i.2.2.2.2.1 i.2.2.2.2.2.1 i.2.2.2.2.2.2.1 i.2.2.2.2.2.2.2.1 i.2.2.2.2.2.2.2.2.1 i.2.2.2.2.2.2.2.2.2.1 i.2.2.2.2.2.2.2.2.2.2.1 i.2.2.2.2.2.2.2.2.2.2.2.1 i.2.2.2.2.2.2.2.2.2.2.2.2.1 i.2.2.2.2.2.2.2.2.2.2.2.2.2) f87.l6.w (fun rec_ ret i => f87.l6.step k (fun a13 a14 a15 a16 s17 s18 a19 a20 a21 a22 b23 b24 xs25 xs26 => rec_ (a13, a14, a15, a16, s17, s18, a19, a20, a21, a22, b23, b24, xs25, xs26)) ret i.1 i.2.1 i.2.2.1 i.2.2.2.1 i.2.2.2.2.1 i.2.2.2.2.2.1 i.2.2.2.2.2.2.1 i.2.2.2.2.2.2.2.1 i.2.2.2.2.2.2.2.2.1 i.2.2.2.2.2.2.2.2.2.1 i.2.2.2.2.2.2.2.2.2.2.1 i.2.2.2.2.2.2.2.2.2.2.2.1 i.2.2.2.2.2.2.2.2.2.2.2.2.1 i.2.2.2.2.2.2.2.2.2.2.2.2.2)
    (fun _ => rfl) (fun _ _ => rfl) (fun rec_ g i => f87.l6.nat k _ g i.1 i.2.1 i.2.2.1 i.2.2.2.1 i.2.2.2.2.1 i.2.2.2.2.2.1 i.2.2.2.2.2.2.1 i.2.2.2.2.2.2.2.1 i.2.2.2.2.2.2.2.2.1 i.2.2.2.2.2.2.2.2.2.1 i.2.2.2.2.2.2.2.2.2.2.1 i.2.2.2.2.2.2.2.2.2.2.2.1 i.2.2.2.2.2.2.2.2.2.2.2.2.1 i.2.2.2.2.2.2.2.2.2.2.2.2.2) (fun {R} i0 i rec_ K => by kernel_rfl) k (a13, a14, a15, a16, s17, s18, a19, a20, a21, a22, b23, b24, xs25, xs26)
theorem f87.l6.all (k : Nat) (S : St env) : GoodL (f87.X k) (nthC 0 (loopsOf (bodyOf Try.f87))) S (f87.l6.hd k S.ts S.m S.n) := by
  obtain ⟨ts_, m_, n_⟩ := S
  show GoodL _ _ _ (f87.l6.hd k ts_ m_ n_)
  unfold f87.l6.hd
  refine gTs_ok (p := GoodL _ _ _) goodL_no fun _ h => ?_
  subst h
  refine gV_ok (p := GoodL _ _ _) goodL_no fun _ _ h => ?_
  subst h
  refine rV_ok (p := GoodL _ _ _) goodL_no fun _ h => ?_
  subst h
  refine vI_ok (p := GoodL _ _ _) goodL_no fun _ h => ?_
  subst h
  refine gV_ok (p := GoodL _ _ _) goodL_no fun _ _ h => ?_
  subst h
  refine rBp_ok (p := GoodL _ _ _) goodL_no fun h => ?_
  subst h
  refine gV_ok (p := GoodL _ _ _) goodL_no fun _ _ h => ?_
  subst h
  refine rV_ok (p := GoodL _ _ _) goodL_no fun _ h => ?_
  subst h
  refine vI_ok (p := GoodL _ _ _) goodL_no fun _ h => ?_
  subst h
  refine gV_ok (p := GoodL _ _ _) goodL_no fun _ _ h => ?_
  subst h
  refine rRow_ok (p := GoodL _ _ _) goodL_no fun h => ?_
  subst h
  refine gV_ok (p := GoodL _ _ _) goodL_no fun _ _ h => ?_
  subst h
  refine rV_ok (p := GoodL _ _ _) goodL_no fun _ h => ?_
  subst h
  refine vI_ok (p := GoodL _ _ _) goodL_no fun _ h => ?_
  subst h
  refine gE_ok (p := GoodL _ _ _) goodL_no fun h => ?_
  subst h
  refine mBox_ok (p := GoodL _ _ _) goodL_no fun _ _ h => ?_
  subst h
  refine gC_ok (p := GoodL _ _ _) goodL_no fun _ _ h => ?_
  subst h
  refine rV_ok (p := GoodL _ _ _) goodL_no fun _ h => ?_
  subst h
  refine vI_ok (p := GoodL _ _ _) goodL_no fun _ h => ?_
  subst h
  refine gC_ok (p := GoodL _ _ _) goodL_no fun _ _ h => ?_
  subst h
  refine rV_ok (p := GoodL _ _ _) goodL_no fun _ h => ?_
  subst h
  refine vS_ok (p := GoodL _ _ _) goodL_no fun _ h => ?_
  subst h
  refine gC_ok (p := GoodL _ _ _) goodL_no fun _ _ h => ?_
  subst h
  refine rV_ok (p := GoodL _ _ _) goodL_no fun _ h => ?_
  subst h
  refine vS_ok (p := GoodL _ _ _) goodL_no fun _ h => ?_
  subst h
  refine gC_ok (p := GoodL _ _ _) goodL_no fun _ _ h => ?_
  subst h
  refine rV_ok (p := GoodL _ _ _) goodL_no fun _ h => ?_
  subst h
  refine vI_ok (p := GoodL _ _ _) goodL_no fun _ h => ?_
  subst h
  refine gC_ok (p := GoodL _ _ _) goodL_no fun _ _ h => ?_
  subst h
  refine rV_ok (p := GoodL _ _ _) goodL_no fun _ h => ?_
  subst h
  refine vI_ok (p := GoodL _ _ _) goodL_no fun _ h => ?_
  subst h
  refine gC_ok (p := GoodL _ _ _) goodL_no fun _ _ h => ?_
  subst h
  refine rV_ok (p := GoodL _ _ _) goodL_no fun _ h => ?_
  subst h
  refine vI_ok (p := GoodL _ _ _) goodL_no fun _ h => ?_
  subst h
  refine gC_ok (p := GoodL _ _ _) goodL_no fun _ _ h => ?_
  subst h
  refine rV_ok (p := GoodL _ _ _) goodL_no fun _ h => ?_
  subst h
  refine vI_ok (p := GoodL _ _ _) goodL_no fun _ h => ?_
  subst h
  refine gC_ok (p := GoodL _ _ _) goodL_no fun _ _ h => ?_
  subst h
  refine rV_ok (p := GoodL _ _ _) goodL_no fun _ h => ?_
  subst h
  refine vB_ok (p := GoodL _ _ _) goodL_no fun _ h => ?_
  subst h
  refine gC_ok (p := GoodL _ _ _) goodL_no fun _ _ h => ?_
  subst h
  refine rV_ok (p := GoodL _ _ _) goodL_no fun _ h => ?_
  subst h
  refine vB_ok (p := GoodL _ _ _) goodL_no fun _ h => ?_
  subst h
  refine gC_ok (p := GoodL _ _ _) goodL_no fun _ _ h => ?_
  subst h
  refine rImm_ok (p := GoodL _ _ _) goodL_no fun _ h => ?_
  subst h
  refine gE_ok (p := GoodL _ _ _) goodL_no fun h => ?_
  subst h
  refine mRow_ok (p := GoodL _ _ _) goodL_no fun _ _ h => ?_
  subst h
  refine gE_ok (p := GoodL _ _ _) goodL_no fun h => ?_
  subst h
  refine gN_ok (p := GoodL _ _ _) goodL_no fun h => ?_
  subst h
  exact f87.l6.good k _ _ _ _ _ _ _ _ _ _ _ _ _ _
theorem f87.nat {R : Type} (k : Nat) (g : ((List S24)) → Option R) (a1 : Int) (s2 : ByteArray) (s3 : ByteArray) (a4 : Int) (a5 : Int) (a6 : Int) (a7 : Int) (b8 : Bool) (b9 : Bool) (xs10 : List Int) (a11 : Int) : f87.step k g a1 s2 s3 a4 a5 a6 a7 b8 b9 xs10 a11 = (f87 k a1 s2 s3 a4 a5 a6 a7 b8 b9 xs10 a11).bind g := by
  simp only [f87, f87.step, bind_ite, bind_sum, Option.bind_assoc, Option.bind_some, Option.bind_none]
theorem f87.ev (k : Nat) (a1 : Int) (s2 : ByteArray) (s3 : ByteArray) (a4 : Int) (a5 : Int) (a6 : Int) (a7 : Int) (b8 : Bool) (b9 : Bool) (xs10 : List Int) (a11 : Int) : evF (f87.X k) (bodyOf Try.f87) Try.f87.ntmps Try.f87.results.toList [.g [.s (.int .i64 a1), .s (.string s2), .s (.string s3), .s (.int .i64 a4), .s (.int .i64 a5), .s (.int .i64 a6), .s (.int .i64 a7), .s (.bool b8), .s (.bool b9), .sl 5 xs10], .v (.c (.s (.int .i64 a11)))] = f87.step k (fun x => f87.w x some) a1 s2 s3 a4 a5 a6 a7 b8 b9 xs10 a11 := by kernel_rfl
theorem f87.hok (k : Nat) : HOK (f87.X k) (bodyOf Try.f87) where
  l := allP_mem (by exact ⟨ls_of (h0 := fun S => f87.l6.hd k S.ts S.m S.n) (by kernel_rfl) (f87.l6.all k), trivial⟩)
  j := allP_mem (by exact trivial)
theorem f87.sound0 (k : Nat) : SoundC env Try.prog 87 (f87.hd k) := by
  intro ps_
  show GoodC _ _ _ ps_ (f87.hd k ps_)
  unfold f87.hd
  refine gC_ok (p := GoodC env Try.prog 87 _) goodC_no fun _ _ h => ?_
  subst h
  refine qG_ok (p := GoodC env Try.prog 87 _) goodC_no fun _ h => ?_
  subst h
  refine gC_ok (p := GoodC env Try.prog 87 _) goodC_no fun _ _ h => ?_
  subst h
  refine qS_ok (p := GoodC env Try.prog 87 _) goodC_no fun _ h => ?_
  subst h
  refine vI_ok (p := GoodC env Try.prog 87 _) goodC_no fun _ h => ?_
  subst h
  refine gC_ok (p := GoodC env Try.prog 87 _) goodC_no fun _ _ h => ?_
  subst h
  refine qS_ok (p := GoodC env Try.prog 87 _) goodC_no fun _ h => ?_
  subst h
  refine vS_ok (p := GoodC env Try.prog 87 _) goodC_no fun _ h => ?_
  subst h
  refine gC_ok (p := GoodC env Try.prog 87 _) goodC_no fun _ _ h => ?_
  subst h
  refine qS_ok (p := GoodC env Try.prog 87 _) goodC_no fun _ h => ?_
  subst h
  refine vS_ok (p := GoodC env Try.prog 87 _) goodC_no fun _ h => ?_
  subst h
  refine gC_ok (p := GoodC env Try.prog 87 _) goodC_no fun _ _ h => ?_
  subst h
  refine qS_ok (p := GoodC env Try.prog 87 _) goodC_no fun _ h => ?_
  subst h
  refine vI_ok (p := GoodC env Try.prog 87 _) goodC_no fun _ h => ?_
  subst h
  refine gC_ok (p := GoodC env Try.prog 87 _) goodC_no fun _ _ h => ?_
  subst h
  refine qS_ok (p := GoodC env Try.prog 87 _) goodC_no fun _ h => ?_
  subst h
  refine vI_ok (p := GoodC env Try.prog 87 _) goodC_no fun _ h => ?_
  subst h
  refine gC_ok (p := GoodC env Try.prog 87 _) goodC_no fun _ _ h => ?_
  subst h
  refine qS_ok (p := GoodC env Try.prog 87 _) goodC_no fun _ h => ?_
  subst h
  refine vI_ok (p := GoodC env Try.prog 87 _) goodC_no fun _ h => ?_
  subst h
  refine gC_ok (p := GoodC env Try.prog 87 _) goodC_no fun _ _ h => ?_
  subst h
  refine qS_ok (p := GoodC env Try.prog 87 _) goodC_no fun _ h => ?_
  subst h
  refine vI_ok (p := GoodC env Try.prog 87 _) goodC_no fun _ h => ?_
  subst h
  refine gC_ok (p := GoodC env Try.prog 87 _) goodC_no fun _ _ h => ?_
  subst h
  refine qS_ok (p := GoodC env Try.prog 87 _) goodC_no fun _ h => ?_
  subst h
  refine vB_ok (p := GoodC env Try.prog 87 _) goodC_no fun _ h => ?_
  subst h
  refine gC_ok (p := GoodC env Try.prog 87 _) goodC_no fun _ _ h => ?_
  subst h
  refine qS_ok (p := GoodC env Try.prog 87 _) goodC_no fun _ h => ?_
  subst h
  refine vB_ok (p := GoodC env Try.prog 87 _) goodC_no fun _ h => ?_
  subst h
  refine gC_ok (p := GoodC env Try.prog 87 _) goodC_no fun _ _ h => ?_
  subst h
  refine qSl_ok (p := GoodC env Try.prog 87 _) goodC_no fun _ h => ?_
  subst h
  refine gE_ok (p := GoodC env Try.prog 87 _) goodC_no fun h => ?_
  subst h
  refine gC_ok (p := GoodC env Try.prog 87 _) goodC_no fun _ _ h => ?_
  subst h
  refine qC_ok (p := GoodC env Try.prog 87 _) goodC_no fun _ h => ?_
  subst h
  refine qS_ok (p := GoodC env Try.prog 87 _) goodC_no fun _ h => ?_
  subst h
  refine vI_ok (p := GoodC env Try.prog 87 _) goodC_no fun _ h => ?_
  subst h
  refine gE_ok (p := GoodC env Try.prog 87 _) goodC_no fun h => ?_
  subst h
  exact fun_good (fun_sound envOK (cs_sound _ (by exact ⟨⟨f146.sound k, f146.fnok⟩, trivial⟩)) (f87.hok k) Try.func87 rfl) ((f87.ev k _ _ _ _ _ _ _ _ _ _ _).trans (f87.nat k _ _ _ _ _ _ _ _ _ _ _ _))
theorem f87.sound (k : Nat) : SoundC env Try.prog 87 (f87.e k).F := soundC_coer (f87.sound0 k) [[.no, .no, .no, .no, .no, .no, .no, .no, .no, .rd 5], [.no]]
theorem f87.says (k : Nat) (a1 : Int) (s2 : ByteArray) (s3 : ByteArray) (a4 : Int) (a5 : Int) (a6 : Int) (a7 : Int) (b8 : Bool) (b9 : Bool) (xs10 : List Int) (a11 : Int) (t30 : (List S24)) (h_ : f87 k a1 s2 s3 a4 a5 a6 a7 b8 b9 xs10 a11 = some t30) : SoundAt env Try.prog 87 [.g [.s (.int .i64 a1), .s (.string s2), .s (.string s3), .s (.int .i64 a4), .s (.int .i64 a5), .s (.int .i64 a6), .s (.int .i64 a7), .s (.bool b8), .s (.bool b9), .sl 5 xs10], .v (.c (.s (.int .i64 a11)))] ⟨.v (.c (.own true 24 t30)), [[], []]⟩ :=
  fun_sound envOK (cs_sound _ (by exact ⟨⟨f146.sound k, f146.fnok⟩, trivial⟩)) (f87.hok k) Try.func87 rfl _ _ (((f87.ev k a1 s2 s3 a4 a5 a6 a7 b8 b9 xs10 a11).trans (f87.nat k _ a1 s2 s3 a4 a5 a6 a7 b8 b9 xs10 a11)).trans (by rw [h_]; rfl))
theorem f87.fnok : FnOK Try.prog 87 := fn_ok Try.func87 (by kernel_rfl) rfl
def f18.step {R : Type} (k : Nat) (ret : ((List S24) × Int) → Option R) (a1 : Int) (s2 : ByteArray) (s3 : ByteArray) (a4 : Int) (a5 : Int) (a6 : Int) (a7 : Int) (b8 : Bool) (b9 : Bool) (xs10 : List Int) (a11 : Int) : Option R :=
  (f85 k a1 s2 s3 a4 a5 a6 a7 b8 b9 xs10).bind fun t12 => if (!t12) = false then
      if (decide (a1 ≠ (4 : Int))) = true then
        ret (([] : List S24), (1 : Int))
      else
        (f86 k a11 (28 : Int) (1520 : Int)).bind fun t13 => if (!t13) = true then
            ret (([] : List S24), (4 : Int))
          else
            if b9 = true then
              if (decide ((IntKind.i64.wrap ((20 : Int) + (((List.length xs10) : Nat) : Int))) > a11)) = true then
                ret (([] : List S24), (11 : Int))
              else
                (f87 k a1 s2 s3 a4 a5 a6 a7 b8 b9 xs10 a11).bind fun t14 => ret (t14, (0 : Int))
            else
              (f87 k a1 s2 s3 a4 a5 a6 a7 b8 b9 xs10 a11).bind fun t15 => ret (t15, (0 : Int))
    else
      ret (([] : List S24), (1 : Int))
def f18 (k : Nat) (a1 : Int) (s2 : ByteArray) (s3 : ByteArray) (a4 : Int) (a5 : Int) (a6 : Int) (a7 : Int) (b8 : Bool) (b9 : Bool) (xs10 : List Int) (a11 : Int) : Option ((List S24) × Int) := f18.step k some a1 s2 s3 a4 a5 a6 a7 b8 b9 xs10 a11
def f18.w {R : Type} : ((List S24) × Int) → (Res env → Option R) → Option R := fun t16 K => K ⟨.tup [.c (.own true 24 t16.1), .c (.s (.int .i64 t16.2))], [[], []]⟩
theorem f18.wn (x : ((List S24) × Int)) : ∃ res, ∀ {R : Type} (K : Res env → Option R), f18.w x K = K res := by
  exact ⟨_, fun _ => rfl⟩
def f18.hd (k : Nat) (ps_ : List (P2 env)) : Cl env :=
  gC Cl.no ps_ fun p_ ps_ => qG Cl.no p_ fun cs_ => gC Cl.no cs_ fun c_ cs_ => qS Cl.no c_ fun v_ => vI Cl.no .i64 v_ fun a1 => gC Cl.no cs_ fun c_ cs_ => qS Cl.no c_ fun v_ => vS Cl.no v_ fun s2 => gC Cl.no cs_ fun c_ cs_ => qS Cl.no c_ fun v_ => vS Cl.no v_ fun s3 => gC Cl.no cs_ fun c_ cs_ => qS Cl.no c_ fun v_ => vI Cl.no .i64 v_ fun a4 => gC Cl.no cs_ fun c_ cs_ => qS Cl.no c_ fun v_ => vI Cl.no .i64 v_ fun a5 => gC Cl.no cs_ fun c_ cs_ => qS Cl.no c_ fun v_ => vI Cl.no .i64 v_ fun a6 => gC Cl.no cs_ fun c_ cs_ => qS Cl.no c_ fun v_ => vI Cl.no .i64 v_ fun a7 => gC Cl.no cs_ fun c_ cs_ => qS Cl.no c_ fun v_ => vB Cl.no v_ fun b8 => gC Cl.no cs_ fun c_ cs_ => qS Cl.no c_ fun v_ => vB Cl.no v_ fun b9 => gC Cl.no cs_ fun c_ cs_ => qSl Cl.no 5 c_ fun xs10 => gE Cl.no cs_ <| gC Cl.no ps_ fun p_ ps_ => qC Cl.no p_ fun c_ => qS Cl.no c_ fun v_ => vI Cl.no .i64 v_ fun a11 => gE Cl.no ps_ <| { α := (List S24) × Int, o := f18 k a1 s2 s3 a4 a5 a6 a7 b8 b9 xs10 a11, w := f18.w, nat := fun x _ => f18.wn x }
def f18.e (k : Nat) : Entry env := ⟨fun ps => f18.hd k (coer [[.no, .no, .no, .no, .no, .no, .no, .no, .no, .rd 5], [.no]] ps), []⟩
def f18.X (k : Nat) : Ctx env := { C := lookE [(85, f85.e k), (86, f86.e k), (87, f87.e k)], L := lookE [], J := lookE [], keep := lookD [], keepX := lookD [], span := lookN [], eff := fun n => memN n [], prep := lookP [], np := 0 }
theorem f18.nat {R : Type} (k : Nat) (g : ((List S24) × Int) → Option R) (a1 : Int) (s2 : ByteArray) (s3 : ByteArray) (a4 : Int) (a5 : Int) (a6 : Int) (a7 : Int) (b8 : Bool) (b9 : Bool) (xs10 : List Int) (a11 : Int) : f18.step k g a1 s2 s3 a4 a5 a6 a7 b8 b9 xs10 a11 = (f18 k a1 s2 s3 a4 a5 a6 a7 b8 b9 xs10 a11).bind g := by
  simp only [f18, f18.step, bind_ite, bind_sum, Option.bind_assoc, Option.bind_some, Option.bind_none]
theorem f18.ev (k : Nat) (a1 : Int) (s2 : ByteArray) (s3 : ByteArray) (a4 : Int) (a5 : Int) (a6 : Int) (a7 : Int) (b8 : Bool) (b9 : Bool) (xs10 : List Int) (a11 : Int) : evF (f18.X k) (bodyOf Try.f18) Try.f18.ntmps Try.f18.results.toList [.g [.s (.int .i64 a1), .s (.string s2), .s (.string s3), .s (.int .i64 a4), .s (.int .i64 a5), .s (.int .i64 a6), .s (.int .i64 a7), .s (.bool b8), .s (.bool b9), .sl 5 xs10], .v (.c (.s (.int .i64 a11)))] = f18.step k (fun x => f18.w x some) a1 s2 s3 a4 a5 a6 a7 b8 b9 xs10 a11 := by kernel_rfl
theorem f18.hok (k : Nat) : HOK (f18.X k) (bodyOf Try.f18) where
  l := allP_mem (by exact trivial)
  j := allP_mem (by exact trivial)
theorem f18.sound0 (k : Nat) : SoundC env Try.prog 18 (f18.hd k) := by
  intro ps_
  show GoodC _ _ _ ps_ (f18.hd k ps_)
  unfold f18.hd
  refine gC_ok (p := GoodC env Try.prog 18 _) goodC_no fun _ _ h => ?_
  subst h
  refine qG_ok (p := GoodC env Try.prog 18 _) goodC_no fun _ h => ?_
  subst h
  refine gC_ok (p := GoodC env Try.prog 18 _) goodC_no fun _ _ h => ?_
  subst h
  refine qS_ok (p := GoodC env Try.prog 18 _) goodC_no fun _ h => ?_
  subst h
  refine vI_ok (p := GoodC env Try.prog 18 _) goodC_no fun _ h => ?_
  subst h
  refine gC_ok (p := GoodC env Try.prog 18 _) goodC_no fun _ _ h => ?_
  subst h
  refine qS_ok (p := GoodC env Try.prog 18 _) goodC_no fun _ h => ?_
  subst h
  refine vS_ok (p := GoodC env Try.prog 18 _) goodC_no fun _ h => ?_
  subst h
  refine gC_ok (p := GoodC env Try.prog 18 _) goodC_no fun _ _ h => ?_
  subst h
  refine qS_ok (p := GoodC env Try.prog 18 _) goodC_no fun _ h => ?_
  subst h
  refine vS_ok (p := GoodC env Try.prog 18 _) goodC_no fun _ h => ?_
  subst h
  refine gC_ok (p := GoodC env Try.prog 18 _) goodC_no fun _ _ h => ?_
  subst h
  refine qS_ok (p := GoodC env Try.prog 18 _) goodC_no fun _ h => ?_
  subst h
  refine vI_ok (p := GoodC env Try.prog 18 _) goodC_no fun _ h => ?_
  subst h
  refine gC_ok (p := GoodC env Try.prog 18 _) goodC_no fun _ _ h => ?_
  subst h
  refine qS_ok (p := GoodC env Try.prog 18 _) goodC_no fun _ h => ?_
  subst h
  refine vI_ok (p := GoodC env Try.prog 18 _) goodC_no fun _ h => ?_
  subst h
  refine gC_ok (p := GoodC env Try.prog 18 _) goodC_no fun _ _ h => ?_
  subst h
  refine qS_ok (p := GoodC env Try.prog 18 _) goodC_no fun _ h => ?_
  subst h
  refine vI_ok (p := GoodC env Try.prog 18 _) goodC_no fun _ h => ?_
  subst h
  refine gC_ok (p := GoodC env Try.prog 18 _) goodC_no fun _ _ h => ?_
  subst h
  refine qS_ok (p := GoodC env Try.prog 18 _) goodC_no fun _ h => ?_
  subst h
  refine vI_ok (p := GoodC env Try.prog 18 _) goodC_no fun _ h => ?_
  subst h
  refine gC_ok (p := GoodC env Try.prog 18 _) goodC_no fun _ _ h => ?_
  subst h
  refine qS_ok (p := GoodC env Try.prog 18 _) goodC_no fun _ h => ?_
  subst h
  refine vB_ok (p := GoodC env Try.prog 18 _) goodC_no fun _ h => ?_
  subst h
  refine gC_ok (p := GoodC env Try.prog 18 _) goodC_no fun _ _ h => ?_
  subst h
  refine qS_ok (p := GoodC env Try.prog 18 _) goodC_no fun _ h => ?_
  subst h
  refine vB_ok (p := GoodC env Try.prog 18 _) goodC_no fun _ h => ?_
  subst h
  refine gC_ok (p := GoodC env Try.prog 18 _) goodC_no fun _ _ h => ?_
  subst h
  refine qSl_ok (p := GoodC env Try.prog 18 _) goodC_no fun _ h => ?_
  subst h
  refine gE_ok (p := GoodC env Try.prog 18 _) goodC_no fun h => ?_
  subst h
  refine gC_ok (p := GoodC env Try.prog 18 _) goodC_no fun _ _ h => ?_
  subst h
  refine qC_ok (p := GoodC env Try.prog 18 _) goodC_no fun _ h => ?_
  subst h
  refine qS_ok (p := GoodC env Try.prog 18 _) goodC_no fun _ h => ?_
  subst h
  refine vI_ok (p := GoodC env Try.prog 18 _) goodC_no fun _ h => ?_
  subst h
  refine gE_ok (p := GoodC env Try.prog 18 _) goodC_no fun h => ?_
  subst h
  exact fun_good (fun_sound envOK (cs_sound _ (by exact ⟨⟨f85.sound k, f85.fnok⟩, ⟨f86.sound k, f86.fnok⟩, ⟨f87.sound k, f87.fnok⟩, trivial⟩)) (f18.hok k) Try.func18 rfl) ((f18.ev k _ _ _ _ _ _ _ _ _ _ _).trans (f18.nat k _ _ _ _ _ _ _ _ _ _ _ _))
theorem f18.sound (k : Nat) : SoundC env Try.prog 18 (f18.e k).F := soundC_coer (f18.sound0 k) [[.no, .no, .no, .no, .no, .no, .no, .no, .no, .rd 5], [.no]]
theorem f18.says (k : Nat) (a1 : Int) (s2 : ByteArray) (s3 : ByteArray) (a4 : Int) (a5 : Int) (a6 : Int) (a7 : Int) (b8 : Bool) (b9 : Bool) (xs10 : List Int) (a11 : Int) (t17 : (List S24) × Int) (h_ : f18 k a1 s2 s3 a4 a5 a6 a7 b8 b9 xs10 a11 = some t17) : SoundAt env Try.prog 18 [.g [.s (.int .i64 a1), .s (.string s2), .s (.string s3), .s (.int .i64 a4), .s (.int .i64 a5), .s (.int .i64 a6), .s (.int .i64 a7), .s (.bool b8), .s (.bool b9), .sl 5 xs10], .v (.c (.s (.int .i64 a11)))] ⟨.tup [.c (.own true 24 t17.1), .c (.s (.int .i64 t17.2))], [[], []]⟩ :=
  fun_sound envOK (cs_sound _ (by exact ⟨⟨f85.sound k, f85.fnok⟩, ⟨f86.sound k, f86.fnok⟩, ⟨f87.sound k, f87.fnok⟩, trivial⟩)) (f18.hok k) Try.func18 rfl _ _ (((f18.ev k a1 s2 s3 a4 a5 a6 a7 b8 b9 xs10 a11).trans (f18.nat k _ a1 s2 s3 a4 a5 a6 a7 b8 b9 xs10 a11)).trans (by rw [h_]; rfl))
theorem f18.fnok : FnOK Try.prog 18 := fn_ok Try.func18 (by kernel_rfl) rfl
def f83.step {R : Type} (k : Nat) (ret : Bool → Option R) (a1 : Int) (a2 : Int) (a3 : Int) : Option R :=
  if (decide (a1 ≥ a2)) = true then
    ret (decide (a1 ≤ a3))
  else
    ret false
def f83 (k : Nat) (a1 : Int) (a2 : Int) (a3 : Int) : Option Bool := f83.step k some a1 a2 a3
def f83.w {R : Type} : Bool → (Res env → Option R) → Option R := fun t4 K => K ⟨.v (.c (.s (.bool t4))), [[], [], []]⟩
theorem f83.wn (x : Bool) : ∃ res, ∀ {R : Type} (K : Res env → Option R), f83.w x K = K res := by
  exact ⟨_, fun _ => rfl⟩
def f83.hd (k : Nat) (ps_ : List (P2 env)) : Cl env :=
  gC Cl.no ps_ fun p_ ps_ => qC Cl.no p_ fun c_ => qS Cl.no c_ fun v_ => vI Cl.no .i64 v_ fun a1 => gC Cl.no ps_ fun p_ ps_ => qC Cl.no p_ fun c_ => qS Cl.no c_ fun v_ => vI Cl.no .i64 v_ fun a2 => gC Cl.no ps_ fun p_ ps_ => qC Cl.no p_ fun c_ => qS Cl.no c_ fun v_ => vI Cl.no .i64 v_ fun a3 => gE Cl.no ps_ <| { α := Bool, o := f83 k a1 a2 a3, w := f83.w, nat := fun x _ => f83.wn x }
def f83.e (k : Nat) : Entry env := ⟨f83.hd k, []⟩
def f83.X (k : Nat) : Ctx env := { C := lookE [], L := lookE [], J := lookE [], keep := lookD [], keepX := lookD [], span := lookN [], eff := fun n => memN n [], prep := lookP [], np := 0 }
theorem f83.nat {R : Type} (k : Nat) (g : Bool → Option R) (a1 : Int) (a2 : Int) (a3 : Int) : f83.step k g a1 a2 a3 = (f83 k a1 a2 a3).bind g := by
  simp only [f83, f83.step, bind_ite, bind_sum, Option.bind_assoc, Option.bind_some, Option.bind_none]
theorem f83.ev (k : Nat) (a1 : Int) (a2 : Int) (a3 : Int) : evF (f83.X k) (bodyOf Try.f83) Try.f83.ntmps Try.f83.results.toList [.v (.c (.s (.int .i64 a1))), .v (.c (.s (.int .i64 a2))), .v (.c (.s (.int .i64 a3)))] = f83.step k (fun x => f83.w x some) a1 a2 a3 := by kernel_rfl
theorem f83.hok (k : Nat) : HOK (f83.X k) (bodyOf Try.f83) where
  l := allP_mem (by exact trivial)
  j := allP_mem (by exact trivial)
theorem f83.sound (k : Nat) : SoundC env Try.prog 83 ((f83.e k).F) := by
  intro ps_
  show GoodC _ _ _ ps_ (f83.hd k ps_)
  unfold f83.hd
  refine gC_ok (p := GoodC env Try.prog 83 _) goodC_no fun _ _ h => ?_
  subst h
  refine qC_ok (p := GoodC env Try.prog 83 _) goodC_no fun _ h => ?_
  subst h
  refine qS_ok (p := GoodC env Try.prog 83 _) goodC_no fun _ h => ?_
  subst h
  refine vI_ok (p := GoodC env Try.prog 83 _) goodC_no fun _ h => ?_
  subst h
  refine gC_ok (p := GoodC env Try.prog 83 _) goodC_no fun _ _ h => ?_
  subst h
  refine qC_ok (p := GoodC env Try.prog 83 _) goodC_no fun _ h => ?_
  subst h
  refine qS_ok (p := GoodC env Try.prog 83 _) goodC_no fun _ h => ?_
  subst h
  refine vI_ok (p := GoodC env Try.prog 83 _) goodC_no fun _ h => ?_
  subst h
  refine gC_ok (p := GoodC env Try.prog 83 _) goodC_no fun _ _ h => ?_
  subst h
  refine qC_ok (p := GoodC env Try.prog 83 _) goodC_no fun _ h => ?_
  subst h
  refine qS_ok (p := GoodC env Try.prog 83 _) goodC_no fun _ h => ?_
  subst h
  refine vI_ok (p := GoodC env Try.prog 83 _) goodC_no fun _ h => ?_
  subst h
  refine gE_ok (p := GoodC env Try.prog 83 _) goodC_no fun h => ?_
  subst h
  exact fun_good (fun_sound envOK (cs_sound _ (by exact trivial)) (f83.hok k) Try.func83 rfl) ((f83.ev k _ _ _).trans (f83.nat k _ _ _ _))
theorem f83.says (k : Nat) (a1 : Int) (a2 : Int) (a3 : Int) (t5 : Bool) (h_ : f83 k a1 a2 a3 = some t5) : SoundAt env Try.prog 83 [.v (.c (.s (.int .i64 a1))), .v (.c (.s (.int .i64 a2))), .v (.c (.s (.int .i64 a3)))] ⟨.v (.c (.s (.bool t5))), [[], [], []]⟩ :=
  fun_sound envOK (cs_sound _ (by exact trivial)) (f83.hok k) Try.func83 rfl _ _ (((f83.ev k a1 a2 a3).trans (f83.nat k _ a1 a2 a3)).trans (by rw [h_]; rfl))
theorem f83.fnok : FnOK Try.prog 83 := fn_ok Try.func83 (by kernel_rfl) rfl
def f20.step {R : Type} (k : Nat) (ret : Bool → Option R) (a1 : Int) (s2 : ByteArray) (s3 : ByteArray) (a4 : Int) (a5 : Int) (a6 : Int) (a7 : Int) (b8 : Bool) (b9 : Bool) (xs10 : List Int) : Option R :=
  (f83 k a4 (0 : Int) (255 : Int)).bind fun t11 => if (!t11) = false then
      (f83 k a5 (0 : Int) (255 : Int)).bind fun t12 => if (!t12) = false then
          if (decide ((((List.length xs10) : Nat) : Int) > (1500 : Int))) = true then
            ret false
          else
            if (decide (a1 = (4 : Int))) = true then
              if (decide ((((ByteArray.size s2) : Nat) : Int) ≠ (4 : Int))) = false then
                if (decide ((((ByteArray.size s3) : Nat) : Int) ≠ (4 : Int))) = false then
                  (f83 k a6 (0 : Int) (65535 : Int)).bind fun t13 => if (!t13) = false then
                      (f83 k a7 (0 : Int) (8191 : Int)).bind fun t14 => if (!t14) = true then
                          ret false
                        else
                          if b9 = true then
                            if b8 = false then
                              if (decide (a7 > (0 : Int))) = true then
                                ret false
                              else
                                if b8 = true then
                                  if (decide ((((List.length xs10) : Nat) : Int) = (0 : Int))) = false then
                                    if (decide ((Int.tmod (((List.length xs10) : Nat) : Int) (8 : Int)) ≠ (0 : Int))) = true then
                                      ret false
                                    else
                                      ret (decide ((IntKind.i64.wrap ((IntKind.i64.wrap ((8 : Int) * a7)) + (((List.length xs10) : Nat) : Int))) ≤ (65515 : Int)))
                                  else
                                    ret false
                                else
                                  ret (decide ((IntKind.i64.wrap ((IntKind.i64.wrap ((8 : Int) * a7)) + (((List.length xs10) : Nat) : Int))) ≤ (65515 : Int)))
                            else
                              ret false
                          else
                            if b8 = true then
                              if (decide ((((List.length xs10) : Nat) : Int) = (0 : Int))) = false then
                                if (decide ((Int.tmod (((List.length xs10) : Nat) : Int) (8 : Int)) ≠ (0 : Int))) = true then
                                  ret false
                                else
                                  ret (decide ((IntKind.i64.wrap ((IntKind.i64.wrap ((8 : Int) * a7)) + (((List.length xs10) : Nat) : Int))) ≤ (65515 : Int)))
                              else
                                ret false
                            else
                              ret (decide ((IntKind.i64.wrap ((IntKind.i64.wrap ((8 : Int) * a7)) + (((List.length xs10) : Nat) : Int))) ≤ (65515 : Int)))
                    else
                      ret false
                else
                  ret false
              else
                ret false
            else
              if (decide (a1 = (6 : Int))) = true then
                if (decide ((((ByteArray.size s2) : Nat) : Int) = (16 : Int))) = true then
                  if (decide ((((ByteArray.size s3) : Nat) : Int) = (16 : Int))) = true then
                    if (decide (a6 = (0 : Int))) = true then
                      if (decide (a7 = (0 : Int))) = true then
                        if (!b8) = true then
                          ret (!b9)
                        else
                          ret false
                      else
                        ret false
                    else
                      ret false
                  else
                    ret false
                else
                  ret false
              else
                ret false
        else
          ret false
    else
      ret false
def f20 (k : Nat) (a1 : Int) (s2 : ByteArray) (s3 : ByteArray) (a4 : Int) (a5 : Int) (a6 : Int) (a7 : Int) (b8 : Bool) (b9 : Bool) (xs10 : List Int) : Option Bool := f20.step k some a1 s2 s3 a4 a5 a6 a7 b8 b9 xs10
def f20.w {R : Type} : Bool → (Res env → Option R) → Option R := fun t15 K => K ⟨.v (.c (.s (.bool t15))), [[]]⟩
theorem f20.wn (x : Bool) : ∃ res, ∀ {R : Type} (K : Res env → Option R), f20.w x K = K res := by
  exact ⟨_, fun _ => rfl⟩
def f20.hd (k : Nat) (ps_ : List (P2 env)) : Cl env :=
  gC Cl.no ps_ fun p_ ps_ => qG Cl.no p_ fun cs_ => gC Cl.no cs_ fun c_ cs_ => qS Cl.no c_ fun v_ => vI Cl.no .i64 v_ fun a1 => gC Cl.no cs_ fun c_ cs_ => qS Cl.no c_ fun v_ => vS Cl.no v_ fun s2 => gC Cl.no cs_ fun c_ cs_ => qS Cl.no c_ fun v_ => vS Cl.no v_ fun s3 => gC Cl.no cs_ fun c_ cs_ => qS Cl.no c_ fun v_ => vI Cl.no .i64 v_ fun a4 => gC Cl.no cs_ fun c_ cs_ => qS Cl.no c_ fun v_ => vI Cl.no .i64 v_ fun a5 => gC Cl.no cs_ fun c_ cs_ => qS Cl.no c_ fun v_ => vI Cl.no .i64 v_ fun a6 => gC Cl.no cs_ fun c_ cs_ => qS Cl.no c_ fun v_ => vI Cl.no .i64 v_ fun a7 => gC Cl.no cs_ fun c_ cs_ => qS Cl.no c_ fun v_ => vB Cl.no v_ fun b8 => gC Cl.no cs_ fun c_ cs_ => qS Cl.no c_ fun v_ => vB Cl.no v_ fun b9 => gC Cl.no cs_ fun c_ cs_ => qSl Cl.no 5 c_ fun xs10 => gE Cl.no cs_ <| gE Cl.no ps_ <| { α := Bool, o := f20 k a1 s2 s3 a4 a5 a6 a7 b8 b9 xs10, w := f20.w, nat := fun x _ => f20.wn x }
def f20.e (k : Nat) : Entry env := ⟨fun ps => f20.hd k (coer [[.no, .no, .no, .no, .no, .no, .no, .no, .no, .rd 5]] ps), []⟩
def f20.X (k : Nat) : Ctx env := { C := lookE [(83, f83.e k)], L := lookE [], J := lookE [], keep := lookD [], keepX := lookD [], span := lookN [], eff := fun n => memN n [], prep := lookP [], np := 0 }
theorem f20.nat {R : Type} (k : Nat) (g : Bool → Option R) (a1 : Int) (s2 : ByteArray) (s3 : ByteArray) (a4 : Int) (a5 : Int) (a6 : Int) (a7 : Int) (b8 : Bool) (b9 : Bool) (xs10 : List Int) : f20.step k g a1 s2 s3 a4 a5 a6 a7 b8 b9 xs10 = (f20 k a1 s2 s3 a4 a5 a6 a7 b8 b9 xs10).bind g := by
  simp only [f20, f20.step, bind_ite, bind_sum, Option.bind_assoc, Option.bind_some, Option.bind_none]
theorem f20.ev (k : Nat) (a1 : Int) (s2 : ByteArray) (s3 : ByteArray) (a4 : Int) (a5 : Int) (a6 : Int) (a7 : Int) (b8 : Bool) (b9 : Bool) (xs10 : List Int) : evF (f20.X k) (bodyOf Try.f20) Try.f20.ntmps Try.f20.results.toList [.g [.s (.int .i64 a1), .s (.string s2), .s (.string s3), .s (.int .i64 a4), .s (.int .i64 a5), .s (.int .i64 a6), .s (.int .i64 a7), .s (.bool b8), .s (.bool b9), .sl 5 xs10]] = f20.step k (fun x => f20.w x some) a1 s2 s3 a4 a5 a6 a7 b8 b9 xs10 := by kernel_rfl
theorem f20.hok (k : Nat) : HOK (f20.X k) (bodyOf Try.f20) where
  l := allP_mem (by exact trivial)
  j := allP_mem (by exact trivial)
theorem f20.sound0 (k : Nat) : SoundC env Try.prog 20 (f20.hd k) := by
  intro ps_
  show GoodC _ _ _ ps_ (f20.hd k ps_)
  unfold f20.hd
  refine gC_ok (p := GoodC env Try.prog 20 _) goodC_no fun _ _ h => ?_
  subst h
  refine qG_ok (p := GoodC env Try.prog 20 _) goodC_no fun _ h => ?_
  subst h
  refine gC_ok (p := GoodC env Try.prog 20 _) goodC_no fun _ _ h => ?_
  subst h
  refine qS_ok (p := GoodC env Try.prog 20 _) goodC_no fun _ h => ?_
  subst h
  refine vI_ok (p := GoodC env Try.prog 20 _) goodC_no fun _ h => ?_
  subst h
  refine gC_ok (p := GoodC env Try.prog 20 _) goodC_no fun _ _ h => ?_
  subst h
  refine qS_ok (p := GoodC env Try.prog 20 _) goodC_no fun _ h => ?_
  subst h
  refine vS_ok (p := GoodC env Try.prog 20 _) goodC_no fun _ h => ?_
  subst h
  refine gC_ok (p := GoodC env Try.prog 20 _) goodC_no fun _ _ h => ?_
  subst h
  refine qS_ok (p := GoodC env Try.prog 20 _) goodC_no fun _ h => ?_
  subst h
  refine vS_ok (p := GoodC env Try.prog 20 _) goodC_no fun _ h => ?_
  subst h
  refine gC_ok (p := GoodC env Try.prog 20 _) goodC_no fun _ _ h => ?_
  subst h
  refine qS_ok (p := GoodC env Try.prog 20 _) goodC_no fun _ h => ?_
  subst h
  refine vI_ok (p := GoodC env Try.prog 20 _) goodC_no fun _ h => ?_
  subst h
  refine gC_ok (p := GoodC env Try.prog 20 _) goodC_no fun _ _ h => ?_
  subst h
  refine qS_ok (p := GoodC env Try.prog 20 _) goodC_no fun _ h => ?_
  subst h
  refine vI_ok (p := GoodC env Try.prog 20 _) goodC_no fun _ h => ?_
  subst h
  refine gC_ok (p := GoodC env Try.prog 20 _) goodC_no fun _ _ h => ?_
  subst h
  refine qS_ok (p := GoodC env Try.prog 20 _) goodC_no fun _ h => ?_
  subst h
  refine vI_ok (p := GoodC env Try.prog 20 _) goodC_no fun _ h => ?_
  subst h
  refine gC_ok (p := GoodC env Try.prog 20 _) goodC_no fun _ _ h => ?_
  subst h
  refine qS_ok (p := GoodC env Try.prog 20 _) goodC_no fun _ h => ?_
  subst h
  refine vI_ok (p := GoodC env Try.prog 20 _) goodC_no fun _ h => ?_
  subst h
  refine gC_ok (p := GoodC env Try.prog 20 _) goodC_no fun _ _ h => ?_
  subst h
  refine qS_ok (p := GoodC env Try.prog 20 _) goodC_no fun _ h => ?_
  subst h
  refine vB_ok (p := GoodC env Try.prog 20 _) goodC_no fun _ h => ?_
  subst h
  refine gC_ok (p := GoodC env Try.prog 20 _) goodC_no fun _ _ h => ?_
  subst h
  refine qS_ok (p := GoodC env Try.prog 20 _) goodC_no fun _ h => ?_
  subst h
  refine vB_ok (p := GoodC env Try.prog 20 _) goodC_no fun _ h => ?_
  subst h
  refine gC_ok (p := GoodC env Try.prog 20 _) goodC_no fun _ _ h => ?_
  subst h
  refine qSl_ok (p := GoodC env Try.prog 20 _) goodC_no fun _ h => ?_
  subst h
  refine gE_ok (p := GoodC env Try.prog 20 _) goodC_no fun h => ?_
  subst h
  refine gE_ok (p := GoodC env Try.prog 20 _) goodC_no fun h => ?_
  subst h
  exact fun_good (fun_sound envOK (cs_sound _ (by exact ⟨⟨f83.sound k, f83.fnok⟩, trivial⟩)) (f20.hok k) Try.func20 rfl) ((f20.ev k _ _ _ _ _ _ _ _ _ _).trans (f20.nat k _ _ _ _ _ _ _ _ _ _ _))
theorem f20.sound (k : Nat) : SoundC env Try.prog 20 (f20.e k).F := soundC_coer (f20.sound0 k) [[.no, .no, .no, .no, .no, .no, .no, .no, .no, .rd 5]]
theorem f20.says (k : Nat) (a1 : Int) (s2 : ByteArray) (s3 : ByteArray) (a4 : Int) (a5 : Int) (a6 : Int) (a7 : Int) (b8 : Bool) (b9 : Bool) (xs10 : List Int) (t16 : Bool) (h_ : f20 k a1 s2 s3 a4 a5 a6 a7 b8 b9 xs10 = some t16) : SoundAt env Try.prog 20 [.g [.s (.int .i64 a1), .s (.string s2), .s (.string s3), .s (.int .i64 a4), .s (.int .i64 a5), .s (.int .i64 a6), .s (.int .i64 a7), .s (.bool b8), .s (.bool b9), .sl 5 xs10]] ⟨.v (.c (.s (.bool t16))), [[]]⟩ :=
  fun_sound envOK (cs_sound _ (by exact ⟨⟨f83.sound k, f83.fnok⟩, trivial⟩)) (f20.hok k) Try.func20 rfl _ _ (((f20.ev k a1 s2 s3 a4 a5 a6 a7 b8 b9 xs10).trans (f20.nat k _ a1 s2 s3 a4 a5 a6 a7 b8 b9 xs10)).trans (by rw [h_]; rfl))
theorem f20.fnok : FnOK Try.prog 20 := fn_ok Try.func20 (by kernel_rfl) rfl
def f84.l5.step {R : Type} (k : Nat) (rec_ : Int → Int → (List Int) → Int → Int → ByteArray → ByteArray → Int → Int → Int → Int → Bool → Bool → (List Int) → (List S24) → Option R) (ret : ((List Int) × Int × Int × ByteArray × ByteArray × Int × Int × Int × Int × Bool × Bool × (List Int) × (List S24)) → Option R) (a12 : Int) (a13 : Int) (xs14 : List Int) (a15 : Int) (a16 : Int) (s17 : ByteArray) (s18 : ByteArray) (a19 : Int) (a20 : Int) (a21 : Int) (a22 : Int) (b23 : Bool) (b24 : Bool) (xs25 : List Int) (xs26 : List S24) : Option R :=
  if (decide ((((List.length xs14) : Nat) : Int) > a12)) = true then
    if (0 : Int) ≤ a13 then
      if a13 ≤ ((List.length xs14 : Nat) : Int) then
        if (List.length ([] : List Int) + List.length (List.drop 0 (List.take (Int.toNat a13) xs14))) * 1 ≤ maxN then
          if (List.length xs26 + List.length ([(⟨a16, s17, s18, a19, a20, a21, a15, true, b24, (([] : List Int) ++ (List.drop 0 (List.take (Int.toNat a13) xs14)))⟩ : S24)] : List S24)) * 104 ≤ maxN then
            if (0 : Int) ≤ a13 then
              if a13 ≤ ((List.length xs14 : Nat) : Int) then
                if ((List.length xs14 : Nat) : Int) ≤ ((List.length xs14 : Nat) : Int) then
                  rec_ a12 a13 (List.drop (Int.toNat a13) (List.take (Int.toNat ((List.length xs14 : Nat) : Int)) xs14)) (IntKind.i64.wrap (a15 + (IntKind.i64.wrap (Int.tdiv a13 (8 : Int))))) a16 s17 s18 a19 a20 a21 a22 b23 b24 xs25 (xs26 ++ ([(⟨a16, s17, s18, a19, a20, a21, a15, true, b24, (([] : List Int) ++ (List.drop 0 (List.take (Int.toNat a13) xs14)))⟩ : S24)] : List S24))
                else none
              else none
            else none
          else none
        else none
      else none
    else none
  else
    ret (xs14, a15, a16, s17, s18, a19, a20, a21, a22, b23, b24, xs25, xs26)
def f84.l5 (k : Nat) : Nat → Int → Int → (List Int) → Int → Int → ByteArray → ByteArray → Int → Int → Int → Int → Bool → Bool → (List Int) → (List S24) → Option ((List Int) × Int × Int × ByteArray × ByteArray × Int × Int × Int × Int × Bool × Bool × (List Int) × (List S24))
  | 0, _, _, _, _, _, _, _, _, _, _, _, _, _, _, _ => none
  | j + 1, a12, a13, xs14, a15, a16, s17, s18, a19, a20, a21, a22, b23, b24, xs25, xs26 => f84.l5.step k (fun a12 a13 xs14 a15 a16 s17 s18 a19 a20 a21 a22 b23 b24 xs25 xs26 => f84.l5 k j a12 a13 xs14 a15 a16 s17 s18 a19 a20 a21 a22 b23 b24 xs25 xs26) some a12 a13 xs14 a15 a16 s17 s18 a19 a20 a21 a22 b23 b24 xs25 xs26
def f84.l5.w {R : Type} : ((List Int) × Int × Int × ByteArray × ByteArray × Int × Int × Int × Int × Bool × Bool × (List Int) × (List S24)) → (Exit → St env → Option R) → Option R := fun t28 K => K (.exit 0) ⟨fullT [2, 7, 8, 9] 0 58 [.v (.c (.bp 2 0)), .v (.c (.row 146)), .v (.c (.imm 5 t28.1)), .v (.c (.s (.int .i64 t28.2.1)))], [(2, .box [.s (.int .i64 t28.2.2.1), .s (.string t28.2.2.2.1), .s (.string t28.2.2.2.2.1), .s (.int .i64 t28.2.2.2.2.2.1), .s (.int .i64 t28.2.2.2.2.2.2.1), .s (.int .i64 t28.2.2.2.2.2.2.2.1), .s (.int .i64 t28.2.2.2.2.2.2.2.2.1), .s (.bool t28.2.2.2.2.2.2.2.2.2.1), .s (.bool t28.2.2.2.2.2.2.2.2.2.2.1), .imm 5 t28.2.2.2.2.2.2.2.2.2.2.2.1]), (146, .row true 24 t28.2.2.2.2.2.2.2.2.2.2.2.2)], 802⟩
def f84.l5.st (a12 : Int) (a13 : Int) (xs14 : List Int) (a15 : Int) (a16 : Int) (s17 : ByteArray) (s18 : ByteArray) (a19 : Int) (a20 : Int) (a21 : Int) (a22 : Int) (b23 : Bool) (b24 : Bool) (xs25 : List Int) (xs26 : List S24) : St env := ⟨fullT [2, 5, 6, 7, 8, 9] 0 58 [.v (.c (.bp 2 0)), .v (.c (.s (.int .i64 a12))), .v (.c (.s (.int .i64 a13))), .v (.c (.row 146)), .v (.c (.imm 5 xs14)), .v (.c (.s (.int .i64 a15)))], [(2, .box [.s (.int .i64 a16), .s (.string s17), .s (.string s18), .s (.int .i64 a19), .s (.int .i64 a20), .s (.int .i64 a21), .s (.int .i64 a22), .s (.bool b23), .s (.bool b24), .imm 5 xs25]), (146, .row true 24 xs26)], 274⟩
def f84.l5.hd (k : Nat) (ts_ : List (AV env)) (mm_ : Mem env) (n_ : Nat) : LCl env :=
  gTs LCl.no [2, 5, 6, 7, 8, 9] 58 ts_ fun l_ => gV LCl.no l_ fun a_ l_ => rBp LCl.no 2 0 a_ <| gV LCl.no l_ fun a_ l_ => rV LCl.no a_ fun v_ => vI LCl.no .i64 v_ fun a12 => gV LCl.no l_ fun a_ l_ => rV LCl.no a_ fun v_ => vI LCl.no .i64 v_ fun a13 => gV LCl.no l_ fun a_ l_ => rRow LCl.no 146 a_ <| gV LCl.no l_ fun a_ l_ => rImm LCl.no 5 a_ fun xs14 => gV LCl.no l_ fun a_ l_ => rV LCl.no a_ fun v_ => vI LCl.no .i64 v_ fun a15 => gE LCl.no l_ <| mBox LCl.no 2 mm_ fun c_ m_ => gC LCl.no c_ fun a_ c_ => rV LCl.no a_ fun v_ => vI LCl.no .i64 v_ fun a16 => gC LCl.no c_ fun a_ c_ => rV LCl.no a_ fun v_ => vS LCl.no v_ fun s17 => gC LCl.no c_ fun a_ c_ => rV LCl.no a_ fun v_ => vS LCl.no v_ fun s18 => gC LCl.no c_ fun a_ c_ => rV LCl.no a_ fun v_ => vI LCl.no .i64 v_ fun a19 => gC LCl.no c_ fun a_ c_ => rV LCl.no a_ fun v_ => vI LCl.no .i64 v_ fun a20 => gC LCl.no c_ fun a_ c_ => rV LCl.no a_ fun v_ => vI LCl.no .i64 v_ fun a21 => gC LCl.no c_ fun a_ c_ => rV LCl.no a_ fun v_ => vI LCl.no .i64 v_ fun a22 => gC LCl.no c_ fun a_ c_ => rV LCl.no a_ fun v_ => vB LCl.no v_ fun b23 => gC LCl.no c_ fun a_ c_ => rV LCl.no a_ fun v_ => vB LCl.no v_ fun b24 => gC LCl.no c_ fun a_ c_ => rImm LCl.no 5 a_ fun xs25 => gE LCl.no c_ <| mRow LCl.no 146 true 24 m_ fun xs26 m_ => gE LCl.no m_ <| gN LCl.no 274 n_ { α := (List Int) × Int × Int × ByteArray × ByteArray × Int × Int × Int × Int × Bool × Bool × (List Int) × (List S24), o := f84.l5 k k a12 a13 xs14 a15 a16 s17 s18 a19 a20 a21 a22 b23 b24 xs25 xs26, w := f84.l5.w }
def f84.step {R : Type} (k : Nat) (ret : ((List S24)) → Option R) (a1 : Int) (s2 : ByteArray) (s3 : ByteArray) (a4 : Int) (a5 : Int) (a6 : Int) (a7 : Int) (b8 : Bool) (b9 : Bool) (xs10 : List Int) (a11 : Int) : Option R :=
  (f84.l5 k k (IntKind.i64.wrap (a11 - (20 : Int))) (IntKind.i64.wrap ((IntKind.i64.wrap (Int.tdiv (IntKind.i64.wrap (a11 - (20 : Int))) (8 : Int))) * (8 : Int))) xs10 a7 a1 s2 s3 a4 a5 a6 a7 b8 b9 xs10 ([] : List S24)).bind fun t27 => if (List.length ([] : List Int) + List.length t27.1) * 1 ≤ maxN then
      if (List.length t27.2.2.2.2.2.2.2.2.2.2.2.2 + List.length ([(⟨t27.2.2.1, t27.2.2.2.1, t27.2.2.2.2.1, t27.2.2.2.2.2.1, t27.2.2.2.2.2.2.1, t27.2.2.2.2.2.2.2.1, t27.2.1, t27.2.2.2.2.2.2.2.2.2.1, t27.2.2.2.2.2.2.2.2.2.2.1, (([] : List Int) ++ t27.1)⟩ : S24)] : List S24)) * 104 ≤ maxN then
        ret (t27.2.2.2.2.2.2.2.2.2.2.2.2 ++ ([(⟨t27.2.2.1, t27.2.2.2.1, t27.2.2.2.2.1, t27.2.2.2.2.2.1, t27.2.2.2.2.2.2.1, t27.2.2.2.2.2.2.2.1, t27.2.1, t27.2.2.2.2.2.2.2.2.2.1, t27.2.2.2.2.2.2.2.2.2.2.1, (([] : List Int) ++ t27.1)⟩ : S24)] : List S24))
      else none
    else none
def f84 (k : Nat) (a1 : Int) (s2 : ByteArray) (s3 : ByteArray) (a4 : Int) (a5 : Int) (a6 : Int) (a7 : Int) (b8 : Bool) (b9 : Bool) (xs10 : List Int) (a11 : Int) : Option ((List S24)) := f84.step k some a1 s2 s3 a4 a5 a6 a7 b8 b9 xs10 a11
def f84.w {R : Type} : ((List S24)) → (Res env → Option R) → Option R := fun t29 K => K ⟨.v (.c (.own true 24 t29)), [[], []]⟩
theorem f84.wn (x : ((List S24))) : ∃ res, ∀ {R : Type} (K : Res env → Option R), f84.w x K = K res := by
  exact ⟨_, fun _ => rfl⟩
def f84.hd (k : Nat) (ps_ : List (P2 env)) : Cl env :=
  gC Cl.no ps_ fun p_ ps_ => qG Cl.no p_ fun cs_ => gC Cl.no cs_ fun c_ cs_ => qS Cl.no c_ fun v_ => vI Cl.no .i64 v_ fun a1 => gC Cl.no cs_ fun c_ cs_ => qS Cl.no c_ fun v_ => vS Cl.no v_ fun s2 => gC Cl.no cs_ fun c_ cs_ => qS Cl.no c_ fun v_ => vS Cl.no v_ fun s3 => gC Cl.no cs_ fun c_ cs_ => qS Cl.no c_ fun v_ => vI Cl.no .i64 v_ fun a4 => gC Cl.no cs_ fun c_ cs_ => qS Cl.no c_ fun v_ => vI Cl.no .i64 v_ fun a5 => gC Cl.no cs_ fun c_ cs_ => qS Cl.no c_ fun v_ => vI Cl.no .i64 v_ fun a6 => gC Cl.no cs_ fun c_ cs_ => qS Cl.no c_ fun v_ => vI Cl.no .i64 v_ fun a7 => gC Cl.no cs_ fun c_ cs_ => qS Cl.no c_ fun v_ => vB Cl.no v_ fun b8 => gC Cl.no cs_ fun c_ cs_ => qS Cl.no c_ fun v_ => vB Cl.no v_ fun b9 => gC Cl.no cs_ fun c_ cs_ => qSl Cl.no 5 c_ fun xs10 => gE Cl.no cs_ <| gC Cl.no ps_ fun p_ ps_ => qC Cl.no p_ fun c_ => qS Cl.no c_ fun v_ => vI Cl.no .i64 v_ fun a11 => gE Cl.no ps_ <| { α := (List S24), o := f84 k a1 s2 s3 a4 a5 a6 a7 b8 b9 xs10 a11, w := f84.w, nat := fun x _ => f84.wn x }
def f84.e (k : Nat) : Entry env := ⟨fun ps => f84.hd k (coer [[.no, .no, .no, .no, .no, .no, .no, .no, .no, .rd 5], [.no]] ps), []⟩
def f84.X (k : Nat) : Ctx env := { C := lookE [], L := lookE [(5, fun S => f84.l5.hd k S.ts S.m S.n)], J := lookE [], keep := lookD [(5, [2, 5, 6, 7, 8, 9])], keepX := lookD [(5, [2, 7, 8, 9])], span := lookN [(5, 528)], eff := fun n => memN n [], prep := lookP [], np := 0 }
theorem f84.l5.nat {R : Type} (k : Nat) (rec_ : Int → Int → (List Int) → Int → Int → ByteArray → ByteArray → Int → Int → Int → Int → Bool → Bool → (List Int) → (List S24) → Option ((List Int) × Int × Int × ByteArray × ByteArray × Int × Int × Int × Int × Bool × Bool × (List Int) × (List S24))) (g : ((List Int) × Int × Int × ByteArray × ByteArray × Int × Int × Int × Int × Bool × Bool × (List Int) × (List S24)) → Option R) (a12 : Int) (a13 : Int) (xs14 : List Int) (a15 : Int) (a16 : Int) (s17 : ByteArray) (s18 : ByteArray) (a19 : Int) (a20 : Int) (a21 : Int) (a22 : Int) (b23 : Bool) (b24 : Bool) (xs25 : List Int) (xs26 : List S24) : (f84.l5.step k rec_ some a12 a13 xs14 a15 a16 s17 s18 a19 a20 a21 a22 b23 b24 xs25 xs26).bind g = f84.l5.step k (fun a12 a13 xs14 a15 a16 s17 s18 a19 a20 a21 a22 b23 b24 xs25 xs26 => (rec_ a12 a13 xs14 a15 a16 s17 s18 a19 a20 a21 a22 b23 b24 xs25 xs26).bind g) g a12 a13 xs14 a15 a16 s17 s18 a19 a20 a21 a22 b23 b24 xs25 xs26 := by
  simp only [f84.l5.step, bind_ite, bind_sum, Option.bind_assoc, Option.bind_some, Option.bind_none]
theorem f84.l5.good (k : Nat) (a12 : Int) (a13 : Int) (xs14 : List Int) (a15 : Int) (a16 : Int) (s17 : ByteArray) (s18 : ByteArray) (a19 : Int) (a20 : Int) (a21 : Int) (a22 : Int) (b23 : Bool) (b24 : Bool) (xs25 : List Int) (xs26 : List S24) : GoodL (f84.X k) (nthC 0 (loopsOf (bodyOf Try.f84))) (f84.l5.st a12 a13 xs14 a15 a16 s17 s18 a19 a20 a21 a22 b23 b24 xs25 xs26) { α := ((List Int) × Int × Int × ByteArray × ByteArray × Int × Int × Int × Int × Bool × Bool × (List Int) × (List S24)), o := f84.l5 k k a12 a13 xs14 a15 a16 s17 s18 a19 a20 a21 a22 b23 b24 xs25 xs26, w := f84.l5.w } :=
  loop_good (ι := Int × Int × (List Int) × Int × Int × ByteArray × ByteArray × Int × Int × Int × Int × Bool × Bool × (List Int) × (List S24)) (α := ((List Int) × Int × Int × ByteArray × ByteArray × Int × Int × Int × Int × Bool × Bool × (List Int) × (List S24))) (fun i => f84.l5.st i.1 i.2.1 i.2.2.1 i.2.2.2.1 i.2.2.2.2.1 i.2.2.2.2.2.1 i.2.2.2.2.2.2.1 i.2.2.2.2.2.2.2.1 i.2.2.2.2.2.2.2.2.1 i.2.2.2.2.2.2.2.2.2.1 i.2.2.2.2.2.2.2.2.2.2.1 i.2.2.2.2.2.2.2.2.2.2.2.1 i.2.2.2.2.2.2.2.2.2.2.2.2.1 i.2.2.2.2.2.2.2.2.2.2.2.2.2.1 i.2.2.2.2.2.2.2.2.2.2.2.2.2.2) (fun j i => f84.l5 k j i.1 i.2.1 i.2.2.1 i.2.2.2.1 i.2.2.2.2.1 i.2.2.2.2.2.1 i.2.2.2.2.2.2.1 i.2.2.2.2.2.2.2.1 i.2.2.2.2.2.2.2.2.1 i.2.2.2.2.2.2.2.2.2.1 i.2.2.2.2.2.2.2.2.2.2.1 i.2.2.2.2.2.2.2.2.2.2.2.1 i.2.2.2.2.2.2.2.2.2.2.2.2.1 i.2.2.2.2.2.2.2.2.2.2.2.2.2.1 i.2.2.2.2.2.2.2.2.2.2.2.2.2.2) f84.l5.w (fun rec_ ret i => f84.l5.step k (fun a12 a13 xs14 a15 a16 s17 s18 a19 a20 a21 a22 b23 b24 xs25 xs26 => rec_ (a12, a13, xs14, a15, a16, s17, s18, a19, a20, a21, a22, b23, b24, xs25, xs26)) ret i.1 i.2.1 i.2.2.1 i.2.2.2.1 i.2.2.2.2.1 i.2.2.2.2.2.1 i.2.2.2.2.2.2.1 i.2.2.2.2.2.2.2.1 i.2.2.2.2.2.2.2.2.1 i.2.2.2.2.2.2.2.2.2.1 i.2.2.2.2.2.2.2.2.2.2.1 i.2.2.2.2.2.2.2.2.2.2.2.1 i.2.2.2.2.2.2.2.2.2.2.2.2.1 i.2.2.2.2.2.2.2.2.2.2.2.2.2.1 i.2.2.2.2.2.2.2.2.2.2.2.2.2.2)
    (fun _ => rfl) (fun _ _ => rfl) (fun rec_ g i => f84.l5.nat k _ g i.1 i.2.1 i.2.2.1 i.2.2.2.1 i.2.2.2.2.1 i.2.2.2.2.2.1 i.2.2.2.2.2.2.1 i.2.2.2.2.2.2.2.1 i.2.2.2.2.2.2.2.2.1 i.2.2.2.2.2.2.2.2.2.1 i.2.2.2.2.2.2.2.2.2.2.1 i.2.2.2.2.2.2.2.2.2.2.2.1 i.2.2.2.2.2.2.2.2.2.2.2.2.1 i.2.2.2.2.2.2.2.2.2.2.2.2.2.1 i.2.2.2.2.2.2.2.2.2.2.2.2.2.2) (fun {R} i0 i rec_ K => by kernel_rfl) k (a12, a13, xs14, a15, a16, s17, s18, a19, a20, a21, a22, b23, b24, xs25, xs26)
theorem f84.l5.all (k : Nat) (S : St env) : GoodL (f84.X k) (nthC 0 (loopsOf (bodyOf Try.f84))) S (f84.l5.hd k S.ts S.m S.n) := by
  obtain ⟨ts_, m_, n_⟩ := S
  show GoodL _ _ _ (f84.l5.hd k ts_ m_ n_)
  unfold f84.l5.hd
  refine gTs_ok (p := GoodL _ _ _) goodL_no fun _ h => ?_
  subst h
  refine gV_ok (p := GoodL _ _ _) goodL_no fun _ _ h => ?_
  subst h
  refine rBp_ok (p := GoodL _ _ _) goodL_no fun h => ?_
  subst h
  refine gV_ok (p := GoodL _ _ _) goodL_no fun _ _ h => ?_
  subst h
  refine rV_ok (p := GoodL _ _ _) goodL_no fun _ h => ?_
  subst h
  refine vI_ok (p := GoodL _ _ _) goodL_no fun _ h => ?_
  subst h
  refine gV_ok (p := GoodL _ _ _) goodL_no fun _ _ h => ?_
  subst h
  refine rV_ok (p := GoodL _ _ _) goodL_no fun _ h => ?_
  subst h
  refine vI_ok (p := GoodL _ _ _) goodL_no fun _ h => ?_
  subst h
  refine gV_ok (p := GoodL _ _ _) goodL_no fun _ _ h => ?_
  subst h
  refine rRow_ok (p := GoodL _ _ _) goodL_no fun h => ?_
  subst h
  refine gV_ok (p := GoodL _ _ _) goodL_no fun _ _ h => ?_
  subst h
  refine rImm_ok (p := GoodL _ _ _) goodL_no fun _ h => ?_
  subst h
  refine gV_ok (p := GoodL _ _ _) goodL_no fun _ _ h => ?_
  subst h
  refine rV_ok (p := GoodL _ _ _) goodL_no fun _ h => ?_
  subst h
  refine vI_ok (p := GoodL _ _ _) goodL_no fun _ h => ?_
  subst h
  refine gE_ok (p := GoodL _ _ _) goodL_no fun h => ?_
  subst h
  refine mBox_ok (p := GoodL _ _ _) goodL_no fun _ _ h => ?_
  subst h
  refine gC_ok (p := GoodL _ _ _) goodL_no fun _ _ h => ?_
  subst h
  refine rV_ok (p := GoodL _ _ _) goodL_no fun _ h => ?_
  subst h
  refine vI_ok (p := GoodL _ _ _) goodL_no fun _ h => ?_
  subst h
  refine gC_ok (p := GoodL _ _ _) goodL_no fun _ _ h => ?_
  subst h
  refine rV_ok (p := GoodL _ _ _) goodL_no fun _ h => ?_
  subst h
  refine vS_ok (p := GoodL _ _ _) goodL_no fun _ h => ?_
  subst h
  refine gC_ok (p := GoodL _ _ _) goodL_no fun _ _ h => ?_
  subst h
  refine rV_ok (p := GoodL _ _ _) goodL_no fun _ h => ?_
  subst h
  refine vS_ok (p := GoodL _ _ _) goodL_no fun _ h => ?_
  subst h
  refine gC_ok (p := GoodL _ _ _) goodL_no fun _ _ h => ?_
  subst h
  refine rV_ok (p := GoodL _ _ _) goodL_no fun _ h => ?_
  subst h
  refine vI_ok (p := GoodL _ _ _) goodL_no fun _ h => ?_
  subst h
  refine gC_ok (p := GoodL _ _ _) goodL_no fun _ _ h => ?_
  subst h
  refine rV_ok (p := GoodL _ _ _) goodL_no fun _ h => ?_
  subst h
  refine vI_ok (p := GoodL _ _ _) goodL_no fun _ h => ?_
  subst h
  refine gC_ok (p := GoodL _ _ _) goodL_no fun _ _ h => ?_
  subst h
  refine rV_ok (p := GoodL _ _ _) goodL_no fun _ h => ?_
  subst h
  refine vI_ok (p := GoodL _ _ _) goodL_no fun _ h => ?_
  subst h
  refine gC_ok (p := GoodL _ _ _) goodL_no fun _ _ h => ?_
  subst h
  refine rV_ok (p := GoodL _ _ _) goodL_no fun _ h => ?_
  subst h
  refine vI_ok (p := GoodL _ _ _) goodL_no fun _ h => ?_
  subst h
  refine gC_ok (p := GoodL _ _ _) goodL_no fun _ _ h => ?_
  subst h
  refine rV_ok (p := GoodL _ _ _) goodL_no fun _ h => ?_
  subst h
  refine vB_ok (p := GoodL _ _ _) goodL_no fun _ h => ?_
  subst h
  refine gC_ok (p := GoodL _ _ _) goodL_no fun _ _ h => ?_
  subst h
  refine rV_ok (p := GoodL _ _ _) goodL_no fun _ h => ?_
  subst h
  refine vB_ok (p := GoodL _ _ _) goodL_no fun _ h => ?_
  subst h
  refine gC_ok (p := GoodL _ _ _) goodL_no fun _ _ h => ?_
  subst h
  refine rImm_ok (p := GoodL _ _ _) goodL_no fun _ h => ?_
  subst h
  refine gE_ok (p := GoodL _ _ _) goodL_no fun h => ?_
  subst h
  refine mRow_ok (p := GoodL _ _ _) goodL_no fun _ _ h => ?_
  subst h
  refine gE_ok (p := GoodL _ _ _) goodL_no fun h => ?_
  subst h
  refine gN_ok (p := GoodL _ _ _) goodL_no fun h => ?_
  subst h
  exact f84.l5.good k _ _ _ _ _ _ _ _ _ _ _ _ _ _ _
theorem f84.nat {R : Type} (k : Nat) (g : ((List S24)) → Option R) (a1 : Int) (s2 : ByteArray) (s3 : ByteArray) (a4 : Int) (a5 : Int) (a6 : Int) (a7 : Int) (b8 : Bool) (b9 : Bool) (xs10 : List Int) (a11 : Int) : f84.step k g a1 s2 s3 a4 a5 a6 a7 b8 b9 xs10 a11 = (f84 k a1 s2 s3 a4 a5 a6 a7 b8 b9 xs10 a11).bind g := by
  simp only [f84, f84.step, bind_ite, bind_sum, Option.bind_assoc, Option.bind_some, Option.bind_none]
theorem f84.ev (k : Nat) (a1 : Int) (s2 : ByteArray) (s3 : ByteArray) (a4 : Int) (a5 : Int) (a6 : Int) (a7 : Int) (b8 : Bool) (b9 : Bool) (xs10 : List Int) (a11 : Int) : evF (f84.X k) (bodyOf Try.f84) Try.f84.ntmps Try.f84.results.toList [.g [.s (.int .i64 a1), .s (.string s2), .s (.string s3), .s (.int .i64 a4), .s (.int .i64 a5), .s (.int .i64 a6), .s (.int .i64 a7), .s (.bool b8), .s (.bool b9), .sl 5 xs10], .v (.c (.s (.int .i64 a11)))] = f84.step k (fun x => f84.w x some) a1 s2 s3 a4 a5 a6 a7 b8 b9 xs10 a11 := by kernel_rfl
theorem f84.hok (k : Nat) : HOK (f84.X k) (bodyOf Try.f84) where
  l := allP_mem (by exact ⟨ls_of (h0 := fun S => f84.l5.hd k S.ts S.m S.n) (by kernel_rfl) (f84.l5.all k), trivial⟩)
  j := allP_mem (by exact trivial)
theorem f84.sound0 (k : Nat) : SoundC env Try.prog 84 (f84.hd k) := by
  intro ps_
  show GoodC _ _ _ ps_ (f84.hd k ps_)
  unfold f84.hd
  refine gC_ok (p := GoodC env Try.prog 84 _) goodC_no fun _ _ h => ?_
  subst h
  refine qG_ok (p := GoodC env Try.prog 84 _) goodC_no fun _ h => ?_
  subst h
  refine gC_ok (p := GoodC env Try.prog 84 _) goodC_no fun _ _ h => ?_
  subst h
  refine qS_ok (p := GoodC env Try.prog 84 _) goodC_no fun _ h => ?_
  subst h
  refine vI_ok (p := GoodC env Try.prog 84 _) goodC_no fun _ h => ?_
  subst h
  refine gC_ok (p := GoodC env Try.prog 84 _) goodC_no fun _ _ h => ?_
  subst h
  refine qS_ok (p := GoodC env Try.prog 84 _) goodC_no fun _ h => ?_
  subst h
  refine vS_ok (p := GoodC env Try.prog 84 _) goodC_no fun _ h => ?_
  subst h
  refine gC_ok (p := GoodC env Try.prog 84 _) goodC_no fun _ _ h => ?_
  subst h
  refine qS_ok (p := GoodC env Try.prog 84 _) goodC_no fun _ h => ?_
  subst h
  refine vS_ok (p := GoodC env Try.prog 84 _) goodC_no fun _ h => ?_
  subst h
  refine gC_ok (p := GoodC env Try.prog 84 _) goodC_no fun _ _ h => ?_
  subst h
  refine qS_ok (p := GoodC env Try.prog 84 _) goodC_no fun _ h => ?_
  subst h
  refine vI_ok (p := GoodC env Try.prog 84 _) goodC_no fun _ h => ?_
  subst h
  refine gC_ok (p := GoodC env Try.prog 84 _) goodC_no fun _ _ h => ?_
  subst h
  refine qS_ok (p := GoodC env Try.prog 84 _) goodC_no fun _ h => ?_
  subst h
  refine vI_ok (p := GoodC env Try.prog 84 _) goodC_no fun _ h => ?_
  subst h
  refine gC_ok (p := GoodC env Try.prog 84 _) goodC_no fun _ _ h => ?_
  subst h
  refine qS_ok (p := GoodC env Try.prog 84 _) goodC_no fun _ h => ?_
  subst h
  refine vI_ok (p := GoodC env Try.prog 84 _) goodC_no fun _ h => ?_
  subst h
  refine gC_ok (p := GoodC env Try.prog 84 _) goodC_no fun _ _ h => ?_
  subst h
  refine qS_ok (p := GoodC env Try.prog 84 _) goodC_no fun _ h => ?_
  subst h
  refine vI_ok (p := GoodC env Try.prog 84 _) goodC_no fun _ h => ?_
  subst h
  refine gC_ok (p := GoodC env Try.prog 84 _) goodC_no fun _ _ h => ?_
  subst h
  refine qS_ok (p := GoodC env Try.prog 84 _) goodC_no fun _ h => ?_
  subst h
  refine vB_ok (p := GoodC env Try.prog 84 _) goodC_no fun _ h => ?_
  subst h
  refine gC_ok (p := GoodC env Try.prog 84 _) goodC_no fun _ _ h => ?_
  subst h
  refine qS_ok (p := GoodC env Try.prog 84 _) goodC_no fun _ h => ?_
  subst h
  refine vB_ok (p := GoodC env Try.prog 84 _) goodC_no fun _ h => ?_
  subst h
  refine gC_ok (p := GoodC env Try.prog 84 _) goodC_no fun _ _ h => ?_
  subst h
  refine qSl_ok (p := GoodC env Try.prog 84 _) goodC_no fun _ h => ?_
  subst h
  refine gE_ok (p := GoodC env Try.prog 84 _) goodC_no fun h => ?_
  subst h
  refine gC_ok (p := GoodC env Try.prog 84 _) goodC_no fun _ _ h => ?_
  subst h
  refine qC_ok (p := GoodC env Try.prog 84 _) goodC_no fun _ h => ?_
  subst h
  refine qS_ok (p := GoodC env Try.prog 84 _) goodC_no fun _ h => ?_
  subst h
  refine vI_ok (p := GoodC env Try.prog 84 _) goodC_no fun _ h => ?_
  subst h
  refine gE_ok (p := GoodC env Try.prog 84 _) goodC_no fun h => ?_
  subst h
  exact fun_good (fun_sound envOK (cs_sound _ (by exact trivial)) (f84.hok k) Try.func84 rfl) ((f84.ev k _ _ _ _ _ _ _ _ _ _ _).trans (f84.nat k _ _ _ _ _ _ _ _ _ _ _ _))
theorem f84.sound (k : Nat) : SoundC env Try.prog 84 (f84.e k).F := soundC_coer (f84.sound0 k) [[.no, .no, .no, .no, .no, .no, .no, .no, .no, .rd 5], [.no]]
theorem f84.says (k : Nat) (a1 : Int) (s2 : ByteArray) (s3 : ByteArray) (a4 : Int) (a5 : Int) (a6 : Int) (a7 : Int) (b8 : Bool) (b9 : Bool) (xs10 : List Int) (a11 : Int) (t30 : (List S24)) (h_ : f84 k a1 s2 s3 a4 a5 a6 a7 b8 b9 xs10 a11 = some t30) : SoundAt env Try.prog 84 [.g [.s (.int .i64 a1), .s (.string s2), .s (.string s3), .s (.int .i64 a4), .s (.int .i64 a5), .s (.int .i64 a6), .s (.int .i64 a7), .s (.bool b8), .s (.bool b9), .sl 5 xs10], .v (.c (.s (.int .i64 a11)))] ⟨.v (.c (.own true 24 t30)), [[], []]⟩ :=
  fun_sound envOK (cs_sound _ (by exact trivial)) (f84.hok k) Try.func84 rfl _ _ (((f84.ev k a1 s2 s3 a4 a5 a6 a7 b8 b9 xs10 a11).trans (f84.nat k _ a1 s2 s3 a4 a5 a6 a7 b8 b9 xs10 a11)).trans (by rw [h_]; rfl))
theorem f84.fnok : FnOK Try.prog 84 := fn_ok Try.func84 (by kernel_rfl) rfl
def f17.step {R : Type} (k : Nat) (ret : (Int ⊕ ((List S24) × Int)) → Option R) (a1 : Int) (s2 : ByteArray) (s3 : ByteArray) (a4 : Int) (a5 : Int) (a6 : Int) (a7 : Int) (b8 : Bool) (b9 : Bool) (xs10 : List Int) (a11 : Int) : Option R :=
  (f20 k a1 s2 s3 a4 a5 a6 a7 b8 b9 xs10).bind fun t12 => if (!t12) = false then
      if (decide (a1 ≠ (4 : Int))) = true then
        ret (.inl (1 : Int))
      else
        (f83 k a11 (28 : Int) (1520 : Int)).bind fun t13 => if (!t13) = true then
            ret (.inl (4 : Int))
          else
            if b9 = true then
              if (decide ((IntKind.i64.wrap ((((List.length xs10) : Nat) : Int) + (20 : Int))) > a11)) = true then
                ret (.inl (11 : Int))
              else
                (f84 k a1 s2 s3 a4 a5 a6 a7 b8 b9 xs10 a11).bind fun t14 => ret (.inr (t14, (0 : Int)))
            else
              (f84 k a1 s2 s3 a4 a5 a6 a7 b8 b9 xs10 a11).bind fun t15 => ret (.inr (t15, (0 : Int)))
    else
      ret (.inl (1 : Int))
def f17 (k : Nat) (a1 : Int) (s2 : ByteArray) (s3 : ByteArray) (a4 : Int) (a5 : Int) (a6 : Int) (a7 : Int) (b8 : Bool) (b9 : Bool) (xs10 : List Int) (a11 : Int) : Option (Int ⊕ ((List S24) × Int)) := f17.step k some a1 s2 s3 a4 a5 a6 a7 b8 b9 xs10 a11
def f17.w {R : Type} : (Int ⊕ ((List S24) × Int)) → (Res env → Option R) → Option R := fun x K => Sum.elim (fun t16 => K ⟨.tup [.c (.s (.slice none 0 0)), .c (.s (.int .i64 t16))], [[], []]⟩) (fun t17 => K ⟨.tup [.c (.own true 24 t17.1), .c (.s (.int .i64 t17.2))], [[], []]⟩) x
theorem f17.wn (x : (Int ⊕ ((List S24) × Int))) : ∃ res, ∀ {R : Type} (K : Res env → Option R), f17.w x K = K res := by
  rcases x with x | x <;> exact ⟨_, fun _ => rfl⟩
def f17.hd (k : Nat) (ps_ : List (P2 env)) : Cl env :=
  gC Cl.no ps_ fun p_ ps_ => qG Cl.no p_ fun cs_ => gC Cl.no cs_ fun c_ cs_ => qS Cl.no c_ fun v_ => vI Cl.no .i64 v_ fun a1 => gC Cl.no cs_ fun c_ cs_ => qS Cl.no c_ fun v_ => vS Cl.no v_ fun s2 => gC Cl.no cs_ fun c_ cs_ => qS Cl.no c_ fun v_ => vS Cl.no v_ fun s3 => gC Cl.no cs_ fun c_ cs_ => qS Cl.no c_ fun v_ => vI Cl.no .i64 v_ fun a4 => gC Cl.no cs_ fun c_ cs_ => qS Cl.no c_ fun v_ => vI Cl.no .i64 v_ fun a5 => gC Cl.no cs_ fun c_ cs_ => qS Cl.no c_ fun v_ => vI Cl.no .i64 v_ fun a6 => gC Cl.no cs_ fun c_ cs_ => qS Cl.no c_ fun v_ => vI Cl.no .i64 v_ fun a7 => gC Cl.no cs_ fun c_ cs_ => qS Cl.no c_ fun v_ => vB Cl.no v_ fun b8 => gC Cl.no cs_ fun c_ cs_ => qS Cl.no c_ fun v_ => vB Cl.no v_ fun b9 => gC Cl.no cs_ fun c_ cs_ => qSl Cl.no 5 c_ fun xs10 => gE Cl.no cs_ <| gC Cl.no ps_ fun p_ ps_ => qC Cl.no p_ fun c_ => qS Cl.no c_ fun v_ => vI Cl.no .i64 v_ fun a11 => gE Cl.no ps_ <| { α := Int ⊕ ((List S24) × Int), o := f17 k a1 s2 s3 a4 a5 a6 a7 b8 b9 xs10 a11, w := f17.w, nat := fun x _ => f17.wn x }
def f17.e (k : Nat) : Entry env := ⟨fun ps => f17.hd k (coer [[.no, .no, .no, .no, .no, .no, .no, .no, .no, .rd 5], [.no]] ps), []⟩
def f17.X (k : Nat) : Ctx env := { C := lookE [(20, f20.e k), (83, f83.e k), (84, f84.e k)], L := lookE [], J := lookE [], keep := lookD [], keepX := lookD [], span := lookN [], eff := fun n => memN n [], prep := lookP [], np := 0 }
theorem f17.nat {R : Type} (k : Nat) (g : (Int ⊕ ((List S24) × Int)) → Option R) (a1 : Int) (s2 : ByteArray) (s3 : ByteArray) (a4 : Int) (a5 : Int) (a6 : Int) (a7 : Int) (b8 : Bool) (b9 : Bool) (xs10 : List Int) (a11 : Int) : f17.step k g a1 s2 s3 a4 a5 a6 a7 b8 b9 xs10 a11 = (f17 k a1 s2 s3 a4 a5 a6 a7 b8 b9 xs10 a11).bind g := by
  simp only [f17, f17.step, bind_ite, bind_sum, Option.bind_assoc, Option.bind_some, Option.bind_none]
theorem f17.ev (k : Nat) (a1 : Int) (s2 : ByteArray) (s3 : ByteArray) (a4 : Int) (a5 : Int) (a6 : Int) (a7 : Int) (b8 : Bool) (b9 : Bool) (xs10 : List Int) (a11 : Int) : evF (f17.X k) (bodyOf Try.f17) Try.f17.ntmps Try.f17.results.toList [.g [.s (.int .i64 a1), .s (.string s2), .s (.string s3), .s (.int .i64 a4), .s (.int .i64 a5), .s (.int .i64 a6), .s (.int .i64 a7), .s (.bool b8), .s (.bool b9), .sl 5 xs10], .v (.c (.s (.int .i64 a11)))] = f17.step k (fun x => f17.w x some) a1 s2 s3 a4 a5 a6 a7 b8 b9 xs10 a11 := by kernel_rfl
theorem f17.hok (k : Nat) : HOK (f17.X k) (bodyOf Try.f17) where
  l := allP_mem (by exact trivial)
  j := allP_mem (by exact trivial)
theorem f17.sound0 (k : Nat) : SoundC env Try.prog 17 (f17.hd k) := by
  intro ps_
  show GoodC _ _ _ ps_ (f17.hd k ps_)
  unfold f17.hd
  refine gC_ok (p := GoodC env Try.prog 17 _) goodC_no fun _ _ h => ?_
  subst h
  refine qG_ok (p := GoodC env Try.prog 17 _) goodC_no fun _ h => ?_
  subst h
  refine gC_ok (p := GoodC env Try.prog 17 _) goodC_no fun _ _ h => ?_
  subst h
  refine qS_ok (p := GoodC env Try.prog 17 _) goodC_no fun _ h => ?_
  subst h
  refine vI_ok (p := GoodC env Try.prog 17 _) goodC_no fun _ h => ?_
  subst h
  refine gC_ok (p := GoodC env Try.prog 17 _) goodC_no fun _ _ h => ?_
  subst h
  refine qS_ok (p := GoodC env Try.prog 17 _) goodC_no fun _ h => ?_
  subst h
  refine vS_ok (p := GoodC env Try.prog 17 _) goodC_no fun _ h => ?_
  subst h
  refine gC_ok (p := GoodC env Try.prog 17 _) goodC_no fun _ _ h => ?_
  subst h
  refine qS_ok (p := GoodC env Try.prog 17 _) goodC_no fun _ h => ?_
  subst h
  refine vS_ok (p := GoodC env Try.prog 17 _) goodC_no fun _ h => ?_
  subst h
  refine gC_ok (p := GoodC env Try.prog 17 _) goodC_no fun _ _ h => ?_
  subst h
  refine qS_ok (p := GoodC env Try.prog 17 _) goodC_no fun _ h => ?_
  subst h
  refine vI_ok (p := GoodC env Try.prog 17 _) goodC_no fun _ h => ?_
  subst h
  refine gC_ok (p := GoodC env Try.prog 17 _) goodC_no fun _ _ h => ?_
  subst h
  refine qS_ok (p := GoodC env Try.prog 17 _) goodC_no fun _ h => ?_
  subst h
  refine vI_ok (p := GoodC env Try.prog 17 _) goodC_no fun _ h => ?_
  subst h
  refine gC_ok (p := GoodC env Try.prog 17 _) goodC_no fun _ _ h => ?_
  subst h
  refine qS_ok (p := GoodC env Try.prog 17 _) goodC_no fun _ h => ?_
  subst h
  refine vI_ok (p := GoodC env Try.prog 17 _) goodC_no fun _ h => ?_
  subst h
  refine gC_ok (p := GoodC env Try.prog 17 _) goodC_no fun _ _ h => ?_
  subst h
  refine qS_ok (p := GoodC env Try.prog 17 _) goodC_no fun _ h => ?_
  subst h
  refine vI_ok (p := GoodC env Try.prog 17 _) goodC_no fun _ h => ?_
  subst h
  refine gC_ok (p := GoodC env Try.prog 17 _) goodC_no fun _ _ h => ?_
  subst h
  refine qS_ok (p := GoodC env Try.prog 17 _) goodC_no fun _ h => ?_
  subst h
  refine vB_ok (p := GoodC env Try.prog 17 _) goodC_no fun _ h => ?_
  subst h
  refine gC_ok (p := GoodC env Try.prog 17 _) goodC_no fun _ _ h => ?_
  subst h
  refine qS_ok (p := GoodC env Try.prog 17 _) goodC_no fun _ h => ?_
  subst h
  refine vB_ok (p := GoodC env Try.prog 17 _) goodC_no fun _ h => ?_
  subst h
  refine gC_ok (p := GoodC env Try.prog 17 _) goodC_no fun _ _ h => ?_
  subst h
  refine qSl_ok (p := GoodC env Try.prog 17 _) goodC_no fun _ h => ?_
  subst h
  refine gE_ok (p := GoodC env Try.prog 17 _) goodC_no fun h => ?_
  subst h
  refine gC_ok (p := GoodC env Try.prog 17 _) goodC_no fun _ _ h => ?_
  subst h
  refine qC_ok (p := GoodC env Try.prog 17 _) goodC_no fun _ h => ?_
  subst h
  refine qS_ok (p := GoodC env Try.prog 17 _) goodC_no fun _ h => ?_
  subst h
  refine vI_ok (p := GoodC env Try.prog 17 _) goodC_no fun _ h => ?_
  subst h
  refine gE_ok (p := GoodC env Try.prog 17 _) goodC_no fun h => ?_
  subst h
  exact fun_good (fun_sound envOK (cs_sound _ (by exact ⟨⟨f20.sound k, f20.fnok⟩, ⟨f83.sound k, f83.fnok⟩, ⟨f84.sound k, f84.fnok⟩, trivial⟩)) (f17.hok k) Try.func17 rfl) ((f17.ev k _ _ _ _ _ _ _ _ _ _ _).trans (f17.nat k _ _ _ _ _ _ _ _ _ _ _ _))
theorem f17.sound (k : Nat) : SoundC env Try.prog 17 (f17.e k).F := soundC_coer (f17.sound0 k) [[.no, .no, .no, .no, .no, .no, .no, .no, .no, .rd 5], [.no]]
theorem f17.fnok : FnOK Try.prog 17 := fn_ok Try.func17 (by kernel_rfl) rfl
def f33.l4.step {R : Type} (k : Nat) (rec_ : (List Int) → (List Int) → Int → Option R) (ret : (Bool ⊕ (Unit)) → Option R) (xs3 : List Int) (xs4 : List Int) (a5 : Int) : Option R :=
  if (decide (a5 < (((List.length xs3) : Nat) : Int))) = true then
    if (0 : Int) ≤ a5 then
      if a5 < ((List.length xs3 : Nat) : Int) then
        if (0 : Int) ≤ a5 then
          if a5 < ((List.length xs4 : Nat) : Int) then
            if (decide ((List.getD xs3 (Int.toNat a5) (0 : Int)) ≠ (List.getD xs4 (Int.toNat a5) (0 : Int)))) = true then
              ret (.inl false)
            else
              rec_ xs3 xs4 (IntKind.i64.wrap (a5 + (1 : Int)))
          else none
        else none
      else none
    else none
  else
    ret (.inr ())
def f33.l4 (k : Nat) : Nat → (List Int) → (List Int) → Int → Option (Bool ⊕ (Unit))
  | 0, _, _, _ => none
  | j + 1, xs3, xs4, a5 => f33.l4.step k (fun xs3 xs4 a5 => f33.l4 k j xs3 xs4 a5) some xs3 xs4 a5
def f33.l4.w {R : Type} : (Bool ⊕ (Unit)) → (Exit → St env → Option R) → Option R := fun x K => Sum.elim (fun t8 => K .ret ⟨fullT [4] 0 26 [.v (.c (.s (.bool t8)))], [], 386⟩) (fun t9 => K (.exit 0) ⟨fullT [] 0 26 [], [], 386⟩) x
def f33.l4.st (xs3 : List Int) (xs4 : List Int) (a5 : Int) : St env := ⟨fullT [0, 1, 5] 0 26 [.v (.c (.imm 5 xs3)), .v (.c (.imm 5 xs4)), .v (.c (.s (.int .i64 a5)))], [], 114⟩
def f33.l4.hd (k : Nat) (ts_ : List (AV env)) (mm_ : Mem env) (n_ : Nat) : LCl env :=
  gTs LCl.no [0, 1, 5] 26 ts_ fun l_ => gV LCl.no l_ fun a_ l_ => rImm LCl.no 5 a_ fun xs3 => gV LCl.no l_ fun a_ l_ => rImm LCl.no 5 a_ fun xs4 => gV LCl.no l_ fun a_ l_ => rV LCl.no a_ fun v_ => vI LCl.no .i64 v_ fun a5 => gE LCl.no l_ <| gE LCl.no mm_ <| gN LCl.no 114 n_ { α := Bool ⊕ (Unit), o := f33.l4 k k xs3 xs4 a5, w := f33.l4.w }
def f33.step {R : Type} (k : Nat) (ret : Bool → Option R) (xs1 : List Int) (xs2 : List Int) : Option R :=
  if (decide ((((List.length xs1) : Nat) : Int) ≠ (((List.length xs2) : Nat) : Int))) = true then
    ret false
  else
    (f33.l4 k k xs1 xs2 (0 : Int)).bind (Sum.elim (fun t6 => ret t6) (fun t7 => ret true))
def f33 (k : Nat) (xs1 : List Int) (xs2 : List Int) : Option Bool := f33.step k some xs1 xs2
def f33.w {R : Type} : Bool → (Res env → Option R) → Option R := fun t10 K => K ⟨.v (.c (.s (.bool t10))), [[], []]⟩
theorem f33.wn (x : Bool) : ∃ res, ∀ {R : Type} (K : Res env → Option R), f33.w x K = K res := by
  exact ⟨_, fun _ => rfl⟩
def f33.hd (k : Nat) (ps_ : List (P2 env)) : Cl env :=
  gC Cl.no ps_ fun p_ ps_ => qC Cl.no p_ fun c_ => qSl Cl.no 5 c_ fun xs1 => gC Cl.no ps_ fun p_ ps_ => qC Cl.no p_ fun c_ => qSl Cl.no 5 c_ fun xs2 => gE Cl.no ps_ <| { α := Bool, o := f33 k xs1 xs2, w := f33.w, nat := fun x _ => f33.wn x }
def f33.e (k : Nat) : Entry env := ⟨fun ps => f33.hd k (coer [[.rd 5], [.rd 5]] ps), []⟩
def f33.X (k : Nat) : Ctx env := { C := lookE [], L := lookE [(4, fun S => f33.l4.hd k S.ts S.m S.n)], J := lookE [], keep := lookD [(4, [0, 1, 5])], keepX := lookD [(4, [4])], span := lookN [(4, 272)], eff := fun n => memN n [], prep := lookP [], np := 0 }
theorem f33.l4.nat {R : Type} (k : Nat) (rec_ : (List Int) → (List Int) → Int → Option (Bool ⊕ (Unit))) (g : (Bool ⊕ (Unit)) → Option R) (xs3 : List Int) (xs4 : List Int) (a5 : Int) : (f33.l4.step k rec_ some xs3 xs4 a5).bind g = f33.l4.step k (fun xs3 xs4 a5 => (rec_ xs3 xs4 a5).bind g) g xs3 xs4 a5 := by
  simp only [f33.l4.step, bind_ite, bind_sum, Option.bind_assoc, Option.bind_some, Option.bind_none]
theorem f33.l4.good (k : Nat) (xs3 : List Int) (xs4 : List Int) (a5 : Int) : GoodL (f33.X k) (nthC 0 (loopsOf (bodyOf Try.f33))) (f33.l4.st xs3 xs4 a5) { α := (Bool ⊕ (Unit)), o := f33.l4 k k xs3 xs4 a5, w := f33.l4.w } :=
  loop_good (ι := (List Int) × (List Int) × Int) (α := (Bool ⊕ (Unit))) (fun i => f33.l4.st i.1 i.2.1 i.2.2) (fun j i => f33.l4 k j i.1 i.2.1 i.2.2) f33.l4.w (fun rec_ ret i => f33.l4.step k (fun xs3 xs4 a5 => rec_ (xs3, xs4, a5)) ret i.1 i.2.1 i.2.2)
    (fun _ => rfl) (fun _ _ => rfl) (fun rec_ g i => f33.l4.nat k _ g i.1 i.2.1 i.2.2) (fun {R} i0 i rec_ K => by kernel_rfl) k (xs3, xs4, a5)
theorem f33.l4.all (k : Nat) (S : St env) : GoodL (f33.X k) (nthC 0 (loopsOf (bodyOf Try.f33))) S (f33.l4.hd k S.ts S.m S.n) := by
  obtain ⟨ts_, m_, n_⟩ := S
  show GoodL _ _ _ (f33.l4.hd k ts_ m_ n_)
  unfold f33.l4.hd
  refine gTs_ok (p := GoodL _ _ _) goodL_no fun _ h => ?_
  subst h
  refine gV_ok (p := GoodL _ _ _) goodL_no fun _ _ h => ?_
  subst h
  refine rImm_ok (p := GoodL _ _ _) goodL_no fun _ h => ?_
  subst h
  refine gV_ok (p := GoodL _ _ _) goodL_no fun _ _ h => ?_
  subst h
  refine rImm_ok (p := GoodL _ _ _) goodL_no fun _ h => ?_
  subst h
  refine gV_ok (p := GoodL _ _ _) goodL_no fun _ _ h => ?_
  subst h
  refine rV_ok (p := GoodL _ _ _) goodL_no fun _ h => ?_
  subst h
  refine vI_ok (p := GoodL _ _ _) goodL_no fun _ h => ?_
  subst h
  refine gE_ok (p := GoodL _ _ _) goodL_no fun h => ?_
  subst h
  refine gE_ok (p := GoodL _ _ _) goodL_no fun h => ?_
  subst h
  refine gN_ok (p := GoodL _ _ _) goodL_no fun h => ?_
  subst h
  exact f33.l4.good k _ _ _
theorem f33.nat {R : Type} (k : Nat) (g : Bool → Option R) (xs1 : List Int) (xs2 : List Int) : f33.step k g xs1 xs2 = (f33 k xs1 xs2).bind g := by
  simp only [f33, f33.step, bind_ite, bind_sum, Option.bind_assoc, Option.bind_some, Option.bind_none]
theorem f33.ev (k : Nat) (xs1 : List Int) (xs2 : List Int) : evF (f33.X k) (bodyOf Try.f33) Try.f33.ntmps Try.f33.results.toList [.v (.c (.sl 5 xs1)), .v (.c (.sl 5 xs2))] = f33.step k (fun x => f33.w x some) xs1 xs2 := by kernel_rfl
theorem f33.hok (k : Nat) : HOK (f33.X k) (bodyOf Try.f33) where
  l := allP_mem (by exact ⟨ls_of (h0 := fun S => f33.l4.hd k S.ts S.m S.n) (by kernel_rfl) (f33.l4.all k), trivial⟩)
  j := allP_mem (by exact trivial)
theorem f33.sound0 (k : Nat) : SoundC env Try.prog 33 (f33.hd k) := by
  intro ps_
  show GoodC _ _ _ ps_ (f33.hd k ps_)
  unfold f33.hd
  refine gC_ok (p := GoodC env Try.prog 33 _) goodC_no fun _ _ h => ?_
  subst h
  refine qC_ok (p := GoodC env Try.prog 33 _) goodC_no fun _ h => ?_
  subst h
  refine qSl_ok (p := GoodC env Try.prog 33 _) goodC_no fun _ h => ?_
  subst h
  refine gC_ok (p := GoodC env Try.prog 33 _) goodC_no fun _ _ h => ?_
  subst h
  refine qC_ok (p := GoodC env Try.prog 33 _) goodC_no fun _ h => ?_
  subst h
  refine qSl_ok (p := GoodC env Try.prog 33 _) goodC_no fun _ h => ?_
  subst h
  refine gE_ok (p := GoodC env Try.prog 33 _) goodC_no fun h => ?_
  subst h
  exact fun_good (fun_sound envOK (cs_sound _ (by exact trivial)) (f33.hok k) Try.func33 rfl) ((f33.ev k _ _).trans (f33.nat k _ _ _))
theorem f33.sound (k : Nat) : SoundC env Try.prog 33 (f33.e k).F := soundC_coer (f33.sound0 k) [[.rd 5], [.rd 5]]
theorem f33.says (k : Nat) (xs1 : List Int) (xs2 : List Int) (t11 : Bool) (h_ : f33 k xs1 xs2 = some t11) : SoundAt env Try.prog 33 [.v (.c (.sl 5 xs1)), .v (.c (.sl 5 xs2))] ⟨.v (.c (.s (.bool t11))), [[], []]⟩ :=
  fun_sound envOK (cs_sound _ (by exact trivial)) (f33.hok k) Try.func33 rfl _ _ (((f33.ev k xs1 xs2).trans (f33.nat k _ xs1 xs2)).trans (by rw [h_]; rfl))
theorem f33.fnok : FnOK Try.prog 33 := fn_ok Try.func33 (by kernel_rfl) rfl
def f32.step {R : Type} (k : Nat) (ret : Bool → Option R) (a1 : Int) (s2 : ByteArray) (s3 : ByteArray) (a4 : Int) (a5 : Int) (a6 : Int) (a7 : Int) (b8 : Bool) (b9 : Bool) (xs10 : List Int) (a11 : Int) (s12 : ByteArray) (s13 : ByteArray) (a14 : Int) (a15 : Int) (a16 : Int) (a17 : Int) (b18 : Bool) (b19 : Bool) (xs20 : List Int) : Option R :=
  if (decide (a1 ≠ a11)) = true then
    ret false
  else
    if (decide (ByteArray.toList s2 ≠ ByteArray.toList s12)) = true then
      ret false
    else
      if (decide (ByteArray.toList s3 ≠ ByteArray.toList s13)) = true then
        ret false
      else
        if (decide (a4 ≠ a14)) = true then
          ret false
        else
          if (decide (a5 ≠ a15)) = true then
            ret false
          else
            if (decide (a6 ≠ a16)) = true then
              ret false
            else
              if (decide (a7 ≠ a17)) = true then
                ret false
              else
                if (!(b8 == b18)) = true then
                  ret false
                else
                  if (!(b9 == b19)) = true then
                    ret false
                  else
                    (f33 k xs10 xs20).bind fun t21 => if (!t21) = true then
                        ret false
                      else
                        ret true
def f32 (k : Nat) (a1 : Int) (s2 : ByteArray) (s3 : ByteArray) (a4 : Int) (a5 : Int) (a6 : Int) (a7 : Int) (b8 : Bool) (b9 : Bool) (xs10 : List Int) (a11 : Int) (s12 : ByteArray) (s13 : ByteArray) (a14 : Int) (a15 : Int) (a16 : Int) (a17 : Int) (b18 : Bool) (b19 : Bool) (xs20 : List Int) : Option Bool := f32.step k some a1 s2 s3 a4 a5 a6 a7 b8 b9 xs10 a11 s12 s13 a14 a15 a16 a17 b18 b19 xs20
def f32.w {R : Type} : Bool → (Res env → Option R) → Option R := fun t22 K => K ⟨.v (.c (.s (.bool t22))), [[], []]⟩
theorem f32.wn (x : Bool) : ∃ res, ∀ {R : Type} (K : Res env → Option R), f32.w x K = K res := by
  exact ⟨_, fun _ => rfl⟩
def f32.hd (k : Nat) (ps_ : List (P2 env)) : Cl env :=
  gC Cl.no ps_ fun p_ ps_ => qG Cl.no p_ fun cs_ => gC Cl.no cs_ fun c_ cs_ => qS Cl.no c_ fun v_ => vI Cl.no .i64 v_ fun a1 => gC Cl.no cs_ fun c_ cs_ => qS Cl.no c_ fun v_ => vS Cl.no v_ fun s2 => gC Cl.no cs_ fun c_ cs_ => qS Cl.no c_ fun v_ => vS Cl.no v_ fun s3 => gC Cl.no cs_ fun c_ cs_ => qS Cl.no c_ fun v_ => vI Cl.no .i64 v_ fun a4 => gC Cl.no cs_ fun c_ cs_ => qS Cl.no c_ fun v_ => vI Cl.no .i64 v_ fun a5 => gC Cl.no cs_ fun c_ cs_ => qS Cl.no c_ fun v_ => vI Cl.no .i64 v_ fun a6 => gC Cl.no cs_ fun c_ cs_ => qS Cl.no c_ fun v_ => vI Cl.no .i64 v_ fun a7 => gC Cl.no cs_ fun c_ cs_ => qS Cl.no c_ fun v_ => vB Cl.no v_ fun b8 => gC Cl.no cs_ fun c_ cs_ => qS Cl.no c_ fun v_ => vB Cl.no v_ fun b9 => gC Cl.no cs_ fun c_ cs_ => qSl Cl.no 5 c_ fun xs10 => gE Cl.no cs_ <| gC Cl.no ps_ fun p_ ps_ => qG Cl.no p_ fun cs_ => gC Cl.no cs_ fun c_ cs_ => qS Cl.no c_ fun v_ => vI Cl.no .i64 v_ fun a11 => gC Cl.no cs_ fun c_ cs_ => qS Cl.no c_ fun v_ => vS Cl.no v_ fun s12 => gC Cl.no cs_ fun c_ cs_ => qS Cl.no c_ fun v_ => vS Cl.no v_ fun s13 => gC Cl.no cs_ fun c_ cs_ => qS Cl.no c_ fun v_ => vI Cl.no .i64 v_ fun a14 => gC Cl.no cs_ fun c_ cs_ => qS Cl.no c_ fun v_ => vI Cl.no .i64 v_ fun a15 => gC Cl.no cs_ fun c_ cs_ => qS Cl.no c_ fun v_ => vI Cl.no .i64 v_ fun a16 => gC Cl.no cs_ fun c_ cs_ => qS Cl.no c_ fun v_ => vI Cl.no .i64 v_ fun a17 => gC Cl.no cs_ fun c_ cs_ => qS Cl.no c_ fun v_ => vB Cl.no v_ fun b18 => gC Cl.no cs_ fun c_ cs_ => qS Cl.no c_ fun v_ => vB Cl.no v_ fun b19 => gC Cl.no cs_ fun c_ cs_ => qSl Cl.no 5 c_ fun xs20 => gE Cl.no cs_ <| gE Cl.no ps_ <| { α := Bool, o := f32 k a1 s2 s3 a4 a5 a6 a7 b8 b9 xs10 a11 s12 s13 a14 a15 a16 a17 b18 b19 xs20, w := f32.w, nat := fun x _ => f32.wn x }
def f32.e (k : Nat) : Entry env := ⟨fun ps => f32.hd k (coer [[.no, .no, .no, .no, .no, .no, .no, .no, .no, .rd 5], [.no, .no, .no, .no, .no, .no, .no, .no, .no, .rd 5]] ps), []⟩
def f32.X (k : Nat) : Ctx env := { C := lookE [(33, f33.e k)], L := lookE [], J := lookE [], keep := lookD [], keepX := lookD [], span := lookN [], eff := fun n => memN n [], prep := lookP [], np := 0 }
theorem f32.nat {R : Type} (k : Nat) (g : Bool → Option R) (a1 : Int) (s2 : ByteArray) (s3 : ByteArray) (a4 : Int) (a5 : Int) (a6 : Int) (a7 : Int) (b8 : Bool) (b9 : Bool) (xs10 : List Int) (a11 : Int) (s12 : ByteArray) (s13 : ByteArray) (a14 : Int) (a15 : Int) (a16 : Int) (a17 : Int) (b18 : Bool) (b19 : Bool) (xs20 : List Int) : f32.step k g a1 s2 s3 a4 a5 a6 a7 b8 b9 xs10 a11 s12 s13 a14 a15 a16 a17 b18 b19 xs20 = (f32 k a1 s2 s3 a4 a5 a6 a7 b8 b9 xs10 a11 s12 s13 a14 a15 a16 a17 b18 b19 xs20).bind g := by
  simp only [f32, f32.step, bind_ite, bind_sum, Option.bind_assoc, Option.bind_some, Option.bind_none]
theorem f32.ev (k : Nat) (a1 : Int) (s2 : ByteArray) (s3 : ByteArray) (a4 : Int) (a5 : Int) (a6 : Int) (a7 : Int) (b8 : Bool) (b9 : Bool) (xs10 : List Int) (a11 : Int) (s12 : ByteArray) (s13 : ByteArray) (a14 : Int) (a15 : Int) (a16 : Int) (a17 : Int) (b18 : Bool) (b19 : Bool) (xs20 : List Int) : evF (f32.X k) (bodyOf Try.f32) Try.f32.ntmps Try.f32.results.toList [.g [.s (.int .i64 a1), .s (.string s2), .s (.string s3), .s (.int .i64 a4), .s (.int .i64 a5), .s (.int .i64 a6), .s (.int .i64 a7), .s (.bool b8), .s (.bool b9), .sl 5 xs10], .g [.s (.int .i64 a11), .s (.string s12), .s (.string s13), .s (.int .i64 a14), .s (.int .i64 a15), .s (.int .i64 a16), .s (.int .i64 a17), .s (.bool b18), .s (.bool b19), .sl 5 xs20]] = f32.step k (fun x => f32.w x some) a1 s2 s3 a4 a5 a6 a7 b8 b9 xs10 a11 s12 s13 a14 a15 a16 a17 b18 b19 xs20 := by kernel_rfl
theorem f32.hok (k : Nat) : HOK (f32.X k) (bodyOf Try.f32) where
  l := allP_mem (by exact trivial)
  j := allP_mem (by exact trivial)
theorem f32.sound0 (k : Nat) : SoundC env Try.prog 32 (f32.hd k) := by
  intro ps_
  show GoodC _ _ _ ps_ (f32.hd k ps_)
  unfold f32.hd
  refine gC_ok (p := GoodC env Try.prog 32 _) goodC_no fun _ _ h => ?_
  subst h
  refine qG_ok (p := GoodC env Try.prog 32 _) goodC_no fun _ h => ?_
  subst h
  refine gC_ok (p := GoodC env Try.prog 32 _) goodC_no fun _ _ h => ?_
  subst h
  refine qS_ok (p := GoodC env Try.prog 32 _) goodC_no fun _ h => ?_
  subst h
  refine vI_ok (p := GoodC env Try.prog 32 _) goodC_no fun _ h => ?_
  subst h
  refine gC_ok (p := GoodC env Try.prog 32 _) goodC_no fun _ _ h => ?_
  subst h
  refine qS_ok (p := GoodC env Try.prog 32 _) goodC_no fun _ h => ?_
  subst h
  refine vS_ok (p := GoodC env Try.prog 32 _) goodC_no fun _ h => ?_
  subst h
  refine gC_ok (p := GoodC env Try.prog 32 _) goodC_no fun _ _ h => ?_
  subst h
  refine qS_ok (p := GoodC env Try.prog 32 _) goodC_no fun _ h => ?_
  subst h
  refine vS_ok (p := GoodC env Try.prog 32 _) goodC_no fun _ h => ?_
  subst h
  refine gC_ok (p := GoodC env Try.prog 32 _) goodC_no fun _ _ h => ?_
  subst h
  refine qS_ok (p := GoodC env Try.prog 32 _) goodC_no fun _ h => ?_
  subst h
  refine vI_ok (p := GoodC env Try.prog 32 _) goodC_no fun _ h => ?_
  subst h
  refine gC_ok (p := GoodC env Try.prog 32 _) goodC_no fun _ _ h => ?_
  subst h
  refine qS_ok (p := GoodC env Try.prog 32 _) goodC_no fun _ h => ?_
  subst h
  refine vI_ok (p := GoodC env Try.prog 32 _) goodC_no fun _ h => ?_
  subst h
  refine gC_ok (p := GoodC env Try.prog 32 _) goodC_no fun _ _ h => ?_
  subst h
  refine qS_ok (p := GoodC env Try.prog 32 _) goodC_no fun _ h => ?_
  subst h
  refine vI_ok (p := GoodC env Try.prog 32 _) goodC_no fun _ h => ?_
  subst h
  refine gC_ok (p := GoodC env Try.prog 32 _) goodC_no fun _ _ h => ?_
  subst h
  refine qS_ok (p := GoodC env Try.prog 32 _) goodC_no fun _ h => ?_
  subst h
  refine vI_ok (p := GoodC env Try.prog 32 _) goodC_no fun _ h => ?_
  subst h
  refine gC_ok (p := GoodC env Try.prog 32 _) goodC_no fun _ _ h => ?_
  subst h
  refine qS_ok (p := GoodC env Try.prog 32 _) goodC_no fun _ h => ?_
  subst h
  refine vB_ok (p := GoodC env Try.prog 32 _) goodC_no fun _ h => ?_
  subst h
  refine gC_ok (p := GoodC env Try.prog 32 _) goodC_no fun _ _ h => ?_
  subst h
  refine qS_ok (p := GoodC env Try.prog 32 _) goodC_no fun _ h => ?_
  subst h
  refine vB_ok (p := GoodC env Try.prog 32 _) goodC_no fun _ h => ?_
  subst h
  refine gC_ok (p := GoodC env Try.prog 32 _) goodC_no fun _ _ h => ?_
  subst h
  refine qSl_ok (p := GoodC env Try.prog 32 _) goodC_no fun _ h => ?_
  subst h
  refine gE_ok (p := GoodC env Try.prog 32 _) goodC_no fun h => ?_
  subst h
  refine gC_ok (p := GoodC env Try.prog 32 _) goodC_no fun _ _ h => ?_
  subst h
  refine qG_ok (p := GoodC env Try.prog 32 _) goodC_no fun _ h => ?_
  subst h
  refine gC_ok (p := GoodC env Try.prog 32 _) goodC_no fun _ _ h => ?_
  subst h
  refine qS_ok (p := GoodC env Try.prog 32 _) goodC_no fun _ h => ?_
  subst h
  refine vI_ok (p := GoodC env Try.prog 32 _) goodC_no fun _ h => ?_
  subst h
  refine gC_ok (p := GoodC env Try.prog 32 _) goodC_no fun _ _ h => ?_
  subst h
  refine qS_ok (p := GoodC env Try.prog 32 _) goodC_no fun _ h => ?_
  subst h
  refine vS_ok (p := GoodC env Try.prog 32 _) goodC_no fun _ h => ?_
  subst h
  refine gC_ok (p := GoodC env Try.prog 32 _) goodC_no fun _ _ h => ?_
  subst h
  refine qS_ok (p := GoodC env Try.prog 32 _) goodC_no fun _ h => ?_
  subst h
  refine vS_ok (p := GoodC env Try.prog 32 _) goodC_no fun _ h => ?_
  subst h
  refine gC_ok (p := GoodC env Try.prog 32 _) goodC_no fun _ _ h => ?_
  subst h
  refine qS_ok (p := GoodC env Try.prog 32 _) goodC_no fun _ h => ?_
  subst h
  refine vI_ok (p := GoodC env Try.prog 32 _) goodC_no fun _ h => ?_
  subst h
  refine gC_ok (p := GoodC env Try.prog 32 _) goodC_no fun _ _ h => ?_
  subst h
  refine qS_ok (p := GoodC env Try.prog 32 _) goodC_no fun _ h => ?_
  subst h
  refine vI_ok (p := GoodC env Try.prog 32 _) goodC_no fun _ h => ?_
  subst h
  refine gC_ok (p := GoodC env Try.prog 32 _) goodC_no fun _ _ h => ?_
  subst h
  refine qS_ok (p := GoodC env Try.prog 32 _) goodC_no fun _ h => ?_
  subst h
  refine vI_ok (p := GoodC env Try.prog 32 _) goodC_no fun _ h => ?_
  subst h
  refine gC_ok (p := GoodC env Try.prog 32 _) goodC_no fun _ _ h => ?_
  subst h
  refine qS_ok (p := GoodC env Try.prog 32 _) goodC_no fun _ h => ?_
  subst h
  refine vI_ok (p := GoodC env Try.prog 32 _) goodC_no fun _ h => ?_
  subst h
  refine gC_ok (p := GoodC env Try.prog 32 _) goodC_no fun _ _ h => ?_
  subst h
  refine qS_ok (p := GoodC env Try.prog 32 _) goodC_no fun _ h => ?_
  subst h
  refine vB_ok (p := GoodC env Try.prog 32 _) goodC_no fun _ h => ?_
  subst h
  refine gC_ok (p := GoodC env Try.prog 32 _) goodC_no fun _ _ h => ?_
  subst h
  refine qS_ok (p := GoodC env Try.prog 32 _) goodC_no fun _ h => ?_
  subst h
  refine vB_ok (p := GoodC env Try.prog 32 _) goodC_no fun _ h => ?_
  subst h
  refine gC_ok (p := GoodC env Try.prog 32 _) goodC_no fun _ _ h => ?_
  subst h
  refine qSl_ok (p := GoodC env Try.prog 32 _) goodC_no fun _ h => ?_
  subst h
  refine gE_ok (p := GoodC env Try.prog 32 _) goodC_no fun h => ?_
  subst h
  refine gE_ok (p := GoodC env Try.prog 32 _) goodC_no fun h => ?_
  subst h
  exact fun_good (fun_sound envOK (cs_sound _ (by exact ⟨⟨f33.sound k, f33.fnok⟩, trivial⟩)) (f32.hok k) Try.func32 rfl) ((f32.ev k _ _ _ _ _ _ _ _ _ _ _ _ _ _ _ _ _ _ _ _).trans (f32.nat k _ _ _ _ _ _ _ _ _ _ _ _ _ _ _ _ _ _ _ _ _))
theorem f32.sound (k : Nat) : SoundC env Try.prog 32 (f32.e k).F := soundC_coer (f32.sound0 k) [[.no, .no, .no, .no, .no, .no, .no, .no, .no, .rd 5], [.no, .no, .no, .no, .no, .no, .no, .no, .no, .rd 5]]
theorem f32.says (k : Nat) (a1 : Int) (s2 : ByteArray) (s3 : ByteArray) (a4 : Int) (a5 : Int) (a6 : Int) (a7 : Int) (b8 : Bool) (b9 : Bool) (xs10 : List Int) (a11 : Int) (s12 : ByteArray) (s13 : ByteArray) (a14 : Int) (a15 : Int) (a16 : Int) (a17 : Int) (b18 : Bool) (b19 : Bool) (xs20 : List Int) (t23 : Bool) (h_ : f32 k a1 s2 s3 a4 a5 a6 a7 b8 b9 xs10 a11 s12 s13 a14 a15 a16 a17 b18 b19 xs20 = some t23) : SoundAt env Try.prog 32 [.g [.s (.int .i64 a1), .s (.string s2), .s (.string s3), .s (.int .i64 a4), .s (.int .i64 a5), .s (.int .i64 a6), .s (.int .i64 a7), .s (.bool b8), .s (.bool b9), .sl 5 xs10], .g [.s (.int .i64 a11), .s (.string s12), .s (.string s13), .s (.int .i64 a14), .s (.int .i64 a15), .s (.int .i64 a16), .s (.int .i64 a17), .s (.bool b18), .s (.bool b19), .sl 5 xs20]] ⟨.v (.c (.s (.bool t23))), [[], []]⟩ :=
  fun_sound envOK (cs_sound _ (by exact ⟨⟨f33.sound k, f33.fnok⟩, trivial⟩)) (f32.hok k) Try.func32 rfl _ _ (((f32.ev k a1 s2 s3 a4 a5 a6 a7 b8 b9 xs10 a11 s12 s13 a14 a15 a16 a17 b18 b19 xs20).trans (f32.nat k _ a1 s2 s3 a4 a5 a6 a7 b8 b9 xs10 a11 s12 s13 a14 a15 a16 a17 b18 b19 xs20)).trans (by rw [h_]; rfl))
theorem f32.fnok : FnOK Try.prog 32 := fn_ok Try.func32 (by kernel_rfl) rfl
def f61.l4.step {R : Type} (k : Nat) (rec_ : (List S24) → (List S24) → Int → Option R) (ret : (Bool ⊕ (Unit)) → Option R) (xs3 : List S24) (xs4 : List S24) (a5 : Int) : Option R :=
  if (decide (a5 < (((List.length xs3) : Nat) : Int))) = true then
    if (0 : Int) ≤ a5 then
      if a5 < ((List.length xs3 : Nat) : Int) then
        if (0 : Int) ≤ a5 then
          if a5 < ((List.length xs4 : Nat) : Int) then
            (f32 k (List.getD xs3 (Int.toNat a5) (⟨(0 : Int), ByteArray.empty, ByteArray.empty, (0 : Int), (0 : Int), (0 : Int), (0 : Int), false, false, []⟩ : S24)).f0 (List.getD xs3 (Int.toNat a5) (⟨(0 : Int), ByteArray.empty, ByteArray.empty, (0 : Int), (0 : Int), (0 : Int), (0 : Int), false, false, []⟩ : S24)).f1 (List.getD xs3 (Int.toNat a5) (⟨(0 : Int), ByteArray.empty, ByteArray.empty, (0 : Int), (0 : Int), (0 : Int), (0 : Int), false, false, []⟩ : S24)).f2 (List.getD xs3 (Int.toNat a5) (⟨(0 : Int), ByteArray.empty, ByteArray.empty, (0 : Int), (0 : Int), (0 : Int), (0 : Int), false, false, []⟩ : S24)).f3 (List.getD xs3 (Int.toNat a5) (⟨(0 : Int), ByteArray.empty, ByteArray.empty, (0 : Int), (0 : Int), (0 : Int), (0 : Int), false, false, []⟩ : S24)).f4 (List.getD xs3 (Int.toNat a5) (⟨(0 : Int), ByteArray.empty, ByteArray.empty, (0 : Int), (0 : Int), (0 : Int), (0 : Int), false, false, []⟩ : S24)).f5 (List.getD xs3 (Int.toNat a5) (⟨(0 : Int), ByteArray.empty, ByteArray.empty, (0 : Int), (0 : Int), (0 : Int), (0 : Int), false, false, []⟩ : S24)).f6 (List.getD xs3 (Int.toNat a5) (⟨(0 : Int), ByteArray.empty, ByteArray.empty, (0 : Int), (0 : Int), (0 : Int), (0 : Int), false, false, []⟩ : S24)).f7 (List.getD xs3 (Int.toNat a5) (⟨(0 : Int), ByteArray.empty, ByteArray.empty, (0 : Int), (0 : Int), (0 : Int), (0 : Int), false, false, []⟩ : S24)).f8 (List.getD xs3 (Int.toNat a5) (⟨(0 : Int), ByteArray.empty, ByteArray.empty, (0 : Int), (0 : Int), (0 : Int), (0 : Int), false, false, []⟩ : S24)).f9 (List.getD xs4 (Int.toNat a5) (⟨(0 : Int), ByteArray.empty, ByteArray.empty, (0 : Int), (0 : Int), (0 : Int), (0 : Int), false, false, []⟩ : S24)).f0 (List.getD xs4 (Int.toNat a5) (⟨(0 : Int), ByteArray.empty, ByteArray.empty, (0 : Int), (0 : Int), (0 : Int), (0 : Int), false, false, []⟩ : S24)).f1 (List.getD xs4 (Int.toNat a5) (⟨(0 : Int), ByteArray.empty, ByteArray.empty, (0 : Int), (0 : Int), (0 : Int), (0 : Int), false, false, []⟩ : S24)).f2 (List.getD xs4 (Int.toNat a5) (⟨(0 : Int), ByteArray.empty, ByteArray.empty, (0 : Int), (0 : Int), (0 : Int), (0 : Int), false, false, []⟩ : S24)).f3 (List.getD xs4 (Int.toNat a5) (⟨(0 : Int), ByteArray.empty, ByteArray.empty, (0 : Int), (0 : Int), (0 : Int), (0 : Int), false, false, []⟩ : S24)).f4 (List.getD xs4 (Int.toNat a5) (⟨(0 : Int), ByteArray.empty, ByteArray.empty, (0 : Int), (0 : Int), (0 : Int), (0 : Int), false, false, []⟩ : S24)).f5 (List.getD xs4 (Int.toNat a5) (⟨(0 : Int), ByteArray.empty, ByteArray.empty, (0 : Int), (0 : Int), (0 : Int), (0 : Int), false, false, []⟩ : S24)).f6 (List.getD xs4 (Int.toNat a5) (⟨(0 : Int), ByteArray.empty, ByteArray.empty, (0 : Int), (0 : Int), (0 : Int), (0 : Int), false, false, []⟩ : S24)).f7 (List.getD xs4 (Int.toNat a5) (⟨(0 : Int), ByteArray.empty, ByteArray.empty, (0 : Int), (0 : Int), (0 : Int), (0 : Int), false, false, []⟩ : S24)).f8 (List.getD xs4 (Int.toNat a5) (⟨(0 : Int), ByteArray.empty, ByteArray.empty, (0 : Int), (0 : Int), (0 : Int), (0 : Int), false, false, []⟩ : S24)).f9).bind fun t6 => if (!t6) = true then
                ret (.inl false)
              else
                rec_ xs3 xs4 (IntKind.i64.wrap (a5 + (1 : Int)))
          else none
        else none
      else none
    else none
  else
    ret (.inr ())
def f61.l4 (k : Nat) : Nat → (List S24) → (List S24) → Int → Option (Bool ⊕ (Unit))
  | 0, _, _, _ => none
  | j + 1, xs3, xs4, a5 => f61.l4.step k (fun xs3 xs4 a5 => f61.l4 k j xs3 xs4 a5) some xs3 xs4 a5
def f61.l4.w {R : Type} : (Bool ⊕ (Unit)) → (Exit → St env → Option R) → Option R := fun x K => Sum.elim (fun t9 => K .ret ⟨fullT [4] 0 27 [.v (.c (.s (.bool t9)))], [], 402⟩) (fun t10 => K (.exit 0) ⟨fullT [] 0 27 [], [], 402⟩) x
def f61.l4.st (xs3 : List S24) (xs4 : List S24) (a5 : Int) : St env := ⟨fullT [0, 1, 5] 0 27 [.v (.c (.imm 24 xs3)), .v (.c (.imm 24 xs4)), .v (.c (.s (.int .i64 a5)))], [], 114⟩
def f61.l4.hd (k : Nat) (ts_ : List (AV env)) (mm_ : Mem env) (n_ : Nat) : LCl env :=
  gTs LCl.no [0, 1, 5] 27 ts_ fun l_ => gV LCl.no l_ fun a_ l_ => rImm LCl.no 24 a_ fun xs3 => gV LCl.no l_ fun a_ l_ => rImm LCl.no 24 a_ fun xs4 => gV LCl.no l_ fun a_ l_ => rV LCl.no a_ fun v_ => vI LCl.no .i64 v_ fun a5 => gE LCl.no l_ <| gE LCl.no mm_ <| gN LCl.no 114 n_ { α := Bool ⊕ (Unit), o := f61.l4 k k xs3 xs4 a5, w := f61.l4.w }
def f61.step {R : Type} (k : Nat) (ret : Bool → Option R) (xs1 : List S24) (xs2 : List S24) : Option R :=
  if (decide ((((List.length xs1) : Nat) : Int) ≠ (((List.length xs2) : Nat) : Int))) = true then
    ret false
  else
    (f61.l4 k k xs1 xs2 (0 : Int)).bind (Sum.elim (fun t7 => ret t7) (fun t8 => ret true))
def f61 (k : Nat) (xs1 : List S24) (xs2 : List S24) : Option Bool := f61.step k some xs1 xs2
def f61.w {R : Type} : Bool → (Res env → Option R) → Option R := fun t11 K => K ⟨.v (.c (.s (.bool t11))), [[], []]⟩
theorem f61.wn (x : Bool) : ∃ res, ∀ {R : Type} (K : Res env → Option R), f61.w x K = K res := by
  exact ⟨_, fun _ => rfl⟩
def f61.hd (k : Nat) (ps_ : List (P2 env)) : Cl env :=
  gC Cl.no ps_ fun p_ ps_ => qC Cl.no p_ fun c_ => qSl Cl.no 24 c_ fun xs1 => gC Cl.no ps_ fun p_ ps_ => qC Cl.no p_ fun c_ => qSl Cl.no 24 c_ fun xs2 => gE Cl.no ps_ <| { α := Bool, o := f61 k xs1 xs2, w := f61.w, nat := fun x _ => f61.wn x }
def f61.e (k : Nat) : Entry env := ⟨fun ps => f61.hd k (coer [[.rd 24], [.rd 24]] ps), []⟩
def f61.X (k : Nat) : Ctx env := { C := lookE [(32, f32.e k)], L := lookE [(4, fun S => f61.l4.hd k S.ts S.m S.n)], J := lookE [], keep := lookD [(4, [0, 1, 5])], keepX := lookD [(4, [4])], span := lookN [(4, 288)], eff := fun n => memN n [], prep := lookP [], np := 0 }
theorem f61.l4.nat {R : Type} (k : Nat) (rec_ : (List S24) → (List S24) → Int → Option (Bool ⊕ (Unit))) (g : (Bool ⊕ (Unit)) → Option R) (xs3 : List S24) (xs4 : List S24) (a5 : Int) : (f61.l4.step k rec_ some xs3 xs4 a5).bind g = f61.l4.step k (fun xs3 xs4 a5 => (rec_ xs3 xs4 a5).bind g) g xs3 xs4 a5 := by
  simp only [f61.l4.step, bind_ite, bind_sum, Option.bind_assoc, Option.bind_some, Option.bind_none]
theorem f61.l4.good (k : Nat) (xs3 : List S24) (xs4 : List S24) (a5 : Int) : GoodL (f61.X k) (nthC 0 (loopsOf (bodyOf Try.f61))) (f61.l4.st xs3 xs4 a5) { α := (Bool ⊕ (Unit)), o := f61.l4 k k xs3 xs4 a5, w := f61.l4.w } :=
  loop_good (ι := (List S24) × (List S24) × Int) (α := (Bool ⊕ (Unit))) (fun i => f61.l4.st i.1 i.2.1 i.2.2) (fun j i => f61.l4 k j i.1 i.2.1 i.2.2) f61.l4.w (fun rec_ ret i => f61.l4.step k (fun xs3 xs4 a5 => rec_ (xs3, xs4, a5)) ret i.1 i.2.1 i.2.2)
    (fun _ => rfl) (fun _ _ => rfl) (fun rec_ g i => f61.l4.nat k _ g i.1 i.2.1 i.2.2) (fun {R} i0 i rec_ K => by kernel_rfl) k (xs3, xs4, a5)
theorem f61.l4.all (k : Nat) (S : St env) : GoodL (f61.X k) (nthC 0 (loopsOf (bodyOf Try.f61))) S (f61.l4.hd k S.ts S.m S.n) := by
  obtain ⟨ts_, m_, n_⟩ := S
  show GoodL _ _ _ (f61.l4.hd k ts_ m_ n_)
  unfold f61.l4.hd
  refine gTs_ok (p := GoodL _ _ _) goodL_no fun _ h => ?_
  subst h
  refine gV_ok (p := GoodL _ _ _) goodL_no fun _ _ h => ?_
  subst h
  refine rImm_ok (p := GoodL _ _ _) goodL_no fun _ h => ?_
  subst h
  refine gV_ok (p := GoodL _ _ _) goodL_no fun _ _ h => ?_
  subst h
  refine rImm_ok (p := GoodL _ _ _) goodL_no fun _ h => ?_
  subst h
  refine gV_ok (p := GoodL _ _ _) goodL_no fun _ _ h => ?_
  subst h
  refine rV_ok (p := GoodL _ _ _) goodL_no fun _ h => ?_
  subst h
  refine vI_ok (p := GoodL _ _ _) goodL_no fun _ h => ?_
  subst h
  refine gE_ok (p := GoodL _ _ _) goodL_no fun h => ?_
  subst h
  refine gE_ok (p := GoodL _ _ _) goodL_no fun h => ?_
  subst h
  refine gN_ok (p := GoodL _ _ _) goodL_no fun h => ?_
  subst h
  exact f61.l4.good k _ _ _
theorem f61.nat {R : Type} (k : Nat) (g : Bool → Option R) (xs1 : List S24) (xs2 : List S24) : f61.step k g xs1 xs2 = (f61 k xs1 xs2).bind g := by
  simp only [f61, f61.step, bind_ite, bind_sum, Option.bind_assoc, Option.bind_some, Option.bind_none]
theorem f61.ev (k : Nat) (xs1 : List S24) (xs2 : List S24) : evF (f61.X k) (bodyOf Try.f61) Try.f61.ntmps Try.f61.results.toList [.v (.c (.sl 24 xs1)), .v (.c (.sl 24 xs2))] = f61.step k (fun x => f61.w x some) xs1 xs2 := by kernel_rfl
theorem f61.hok (k : Nat) : HOK (f61.X k) (bodyOf Try.f61) where
  l := allP_mem (by exact ⟨ls_of (h0 := fun S => f61.l4.hd k S.ts S.m S.n) (by kernel_rfl) (f61.l4.all k), trivial⟩)
  j := allP_mem (by exact trivial)
theorem f61.sound0 (k : Nat) : SoundC env Try.prog 61 (f61.hd k) := by
  intro ps_
  show GoodC _ _ _ ps_ (f61.hd k ps_)
  unfold f61.hd
  refine gC_ok (p := GoodC env Try.prog 61 _) goodC_no fun _ _ h => ?_
  subst h
  refine qC_ok (p := GoodC env Try.prog 61 _) goodC_no fun _ h => ?_
  subst h
  refine qSl_ok (p := GoodC env Try.prog 61 _) goodC_no fun _ h => ?_
  subst h
  refine gC_ok (p := GoodC env Try.prog 61 _) goodC_no fun _ _ h => ?_
  subst h
  refine qC_ok (p := GoodC env Try.prog 61 _) goodC_no fun _ h => ?_
  subst h
  refine qSl_ok (p := GoodC env Try.prog 61 _) goodC_no fun _ h => ?_
  subst h
  refine gE_ok (p := GoodC env Try.prog 61 _) goodC_no fun h => ?_
  subst h
  exact fun_good (fun_sound envOK (cs_sound _ (by exact ⟨⟨f32.sound k, f32.fnok⟩, trivial⟩)) (f61.hok k) Try.func61 rfl) ((f61.ev k _ _).trans (f61.nat k _ _ _))
theorem f61.sound (k : Nat) : SoundC env Try.prog 61 (f61.e k).F := soundC_coer (f61.sound0 k) [[.rd 24], [.rd 24]]
theorem f61.says (k : Nat) (xs1 : List S24) (xs2 : List S24) (t12 : Bool) (h_ : f61 k xs1 xs2 = some t12) : SoundAt env Try.prog 61 [.v (.c (.sl 24 xs1)), .v (.c (.sl 24 xs2))] ⟨.v (.c (.s (.bool t12))), [[], []]⟩ :=
  fun_sound envOK (cs_sound _ (by exact ⟨⟨f32.sound k, f32.fnok⟩, trivial⟩)) (f61.hok k) Try.func61 rfl _ _ (((f61.ev k xs1 xs2).trans (f61.nat k _ xs1 xs2)).trans (by rw [h_]; rfl))
theorem f61.fnok : FnOK Try.prog 61 := fn_ok Try.func61 (by kernel_rfl) rfl
def f34.l2.step {R : Type} (k : Nat) (rec_ : Int → Int → (List Int) → Option R) (ret : (Int × (List Int)) → Option R) (a3 : Int) (a4 : Int) (xs5 : List Int) : Option R :=
  if (decide (a4 < (((List.length xs5) : Nat) : Int))) = true then
    if (0 : Int) ≤ a4 then
      if a4 < ((List.length xs5 : Nat) : Int) then
        rec_ (IntKind.i64.wrap (a3 + (1 : Int))) (IntKind.i64.wrap (a4 + (1 : Int))) (List.set xs5 (Int.toNat a4) (IntKind.u8.wrap a3))
      else none
    else none
  else
    ret (a3, xs5)
def f34.l2 (k : Nat) : Nat → Int → Int → (List Int) → Option (Int × (List Int))
  | 0, _, _, _ => none
  | j + 1, a3, a4, xs5 => f34.l2.step k (fun a3 a4 xs5 => f34.l2 k j a3 a4 xs5) some a3 a4 xs5
def f34.l2.w {R : Type} : (Int × (List Int)) → (Exit → St env → Option R) → Option R := fun t7 K => K (.exit 0) ⟨fullT [0, 1] 0 20 [.v (.c (.row 2)), .v (.c (.s (.int .i64 t7.1)))], [(2, .row true 5 t7.2)], 418⟩
def f34.l2.st (a3 : Int) (a4 : Int) (xs5 : List Int) : St env := ⟨fullT [0, 1, 5] 0 20 [.v (.c (.row 2)), .v (.c (.s (.int .i64 a3))), .v (.c (.s (.int .i64 a4)))], [(2, .row true 5 xs5)], 162⟩
def f34.l2.hd (k : Nat) (ts_ : List (AV env)) (mm_ : Mem env) (n_ : Nat) : LCl env :=
  gTs LCl.no [0, 1, 5] 20 ts_ fun l_ => gV LCl.no l_ fun a_ l_ => rRow LCl.no 2 a_ <| gV LCl.no l_ fun a_ l_ => rV LCl.no a_ fun v_ => vI LCl.no .i64 v_ fun a3 => gV LCl.no l_ fun a_ l_ => rV LCl.no a_ fun v_ => vI LCl.no .i64 v_ fun a4 => gE LCl.no l_ <| mRow LCl.no 2 true 5 mm_ fun xs5 m_ => gE LCl.no m_ <| gN LCl.no 162 n_ { α := Int × (List Int), o := f34.l2 k k a3 a4 xs5, w := f34.l2.w }
def f34.step {R : Type} (k : Nat) (ret : (Int × (List Int)) → Option R) (xs1 : List Int) (a2 : Int) : Option R :=
  (f34.l2 k k a2 (0 : Int) xs1).bind fun t6 => ret (t6.1, t6.2)
def f34 (k : Nat) (xs1 : List Int) (a2 : Int) : Option (Int × (List Int)) := f34.step k some xs1 a2
def f34.w {R : Type} : (Int × (List Int)) → (Res env → Option R) → Option R := fun t8 K => K ⟨.v (.c (.s (.int .i64 t8.1))), [[.sl 5 t8.2], []]⟩
theorem f34.wn (x : (Int × (List Int))) : ∃ res, ∀ {R : Type} (K : Res env → Option R), f34.w x K = K res := by
  exact ⟨_, fun _ => rfl⟩
def f34.hd (k : Nat) (ps_ : List (P2 env)) : Cl env :=
  gC Cl.no ps_ fun p_ ps_ => qC Cl.no p_ fun c_ => qWr Cl.no 5 c_ fun xs1 => gC Cl.no ps_ fun p_ ps_ => qC Cl.no p_ fun c_ => qS Cl.no c_ fun v_ => vI Cl.no .i64 v_ fun a2 => gE Cl.no ps_ <| { α := Int × (List Int), o := f34 k xs1 a2, w := f34.w, nat := fun x _ => f34.wn x }
def f34.e (k : Nat) : Entry env := ⟨fun ps => f34.hd k (coer [[.wr 5], [.no]] ps), [(0, 0)]⟩
def f34.X (k : Nat) : Ctx env := { C := lookE [], L := lookE [(2, fun S => f34.l2.hd k S.ts S.m S.n)], J := lookE [], keep := lookD [(2, [0, 1, 5])], keepX := lookD [(2, [0, 1])], span := lookN [(2, 256)], eff := fun n => memN n [], prep := lookP [], np := 130 }
theorem f34.l2.nat {R : Type} (k : Nat) (rec_ : Int → Int → (List Int) → Option (Int × (List Int))) (g : (Int × (List Int)) → Option R) (a3 : Int) (a4 : Int) (xs5 : List Int) : (f34.l2.step k rec_ some a3 a4 xs5).bind g = f34.l2.step k (fun a3 a4 xs5 => (rec_ a3 a4 xs5).bind g) g a3 a4 xs5 := by
  simp only [f34.l2.step, bind_ite, bind_sum, Option.bind_assoc, Option.bind_some, Option.bind_none]
theorem f34.l2.good (k : Nat) (a3 : Int) (a4 : Int) (xs5 : List Int) : GoodL (f34.X k) (nthC 0 (loopsOf (bodyOf Try.f34))) (f34.l2.st a3 a4 xs5) { α := (Int × (List Int)), o := f34.l2 k k a3 a4 xs5, w := f34.l2.w } :=
  loop_good (ι := Int × Int × (List Int)) (α := (Int × (List Int))) (fun i => f34.l2.st i.1 i.2.1 i.2.2) (fun j i => f34.l2 k j i.1 i.2.1 i.2.2) f34.l2.w (fun rec_ ret i => f34.l2.step k (fun a3 a4 xs5 => rec_ (a3, a4, xs5)) ret i.1 i.2.1 i.2.2)
    (fun _ => rfl) (fun _ _ => rfl) (fun rec_ g i => f34.l2.nat k _ g i.1 i.2.1 i.2.2) (fun {R} i0 i rec_ K => by kernel_rfl) k (a3, a4, xs5)
theorem f34.l2.all (k : Nat) (S : St env) : GoodL (f34.X k) (nthC 0 (loopsOf (bodyOf Try.f34))) S (f34.l2.hd k S.ts S.m S.n) := by
  obtain ⟨ts_, m_, n_⟩ := S
  show GoodL _ _ _ (f34.l2.hd k ts_ m_ n_)
  unfold f34.l2.hd
  refine gTs_ok (p := GoodL _ _ _) goodL_no fun _ h => ?_
  subst h
  refine gV_ok (p := GoodL _ _ _) goodL_no fun _ _ h => ?_
  subst h
  refine rRow_ok (p := GoodL _ _ _) goodL_no fun h => ?_
  subst h
  refine gV_ok (p := GoodL _ _ _) goodL_no fun _ _ h => ?_
  subst h
  refine rV_ok (p := GoodL _ _ _) goodL_no fun _ h => ?_
  subst h
  refine vI_ok (p := GoodL _ _ _) goodL_no fun _ h => ?_
  subst h
  refine gV_ok (p := GoodL _ _ _) goodL_no fun _ _ h => ?_
  subst h
  refine rV_ok (p := GoodL _ _ _) goodL_no fun _ h => ?_
  subst h
  refine vI_ok (p := GoodL _ _ _) goodL_no fun _ h => ?_
  subst h
  refine gE_ok (p := GoodL _ _ _) goodL_no fun h => ?_
  subst h
  refine mRow_ok (p := GoodL _ _ _) goodL_no fun _ _ h => ?_
  subst h
  refine gE_ok (p := GoodL _ _ _) goodL_no fun h => ?_
  subst h
  refine gN_ok (p := GoodL _ _ _) goodL_no fun h => ?_
  subst h
  exact f34.l2.good k _ _ _
theorem f34.nat {R : Type} (k : Nat) (g : (Int × (List Int)) → Option R) (xs1 : List Int) (a2 : Int) : f34.step k g xs1 a2 = (f34 k xs1 a2).bind g := by
  simp only [f34, f34.step, bind_ite, bind_sum, Option.bind_assoc, Option.bind_some, Option.bind_none]
theorem f34.ev (k : Nat) (xs1 : List Int) (a2 : Int) : evF (f34.X k) (bodyOf Try.f34) Try.f34.ntmps Try.f34.results.toList [.v (.c (.wr 5 xs1)), .v (.c (.s (.int .i64 a2)))] = f34.step k (fun x => f34.w x some) xs1 a2 := by kernel_rfl
theorem f34.hok (k : Nat) : HOK (f34.X k) (bodyOf Try.f34) where
  l := allP_mem (by exact ⟨ls_of (h0 := fun S => f34.l2.hd k S.ts S.m S.n) (by kernel_rfl) (f34.l2.all k), trivial⟩)
  j := allP_mem (by exact trivial)
theorem f34.sound0 (k : Nat) : SoundC env Try.prog 34 (f34.hd k) := by
  intro ps_
  show GoodC _ _ _ ps_ (f34.hd k ps_)
  unfold f34.hd
  refine gC_ok (p := GoodC env Try.prog 34 _) goodC_no fun _ _ h => ?_
  subst h
  refine qC_ok (p := GoodC env Try.prog 34 _) goodC_no fun _ h => ?_
  subst h
  refine qWr_ok (p := GoodC env Try.prog 34 _) goodC_no fun _ h => ?_
  subst h
  refine gC_ok (p := GoodC env Try.prog 34 _) goodC_no fun _ _ h => ?_
  subst h
  refine qC_ok (p := GoodC env Try.prog 34 _) goodC_no fun _ h => ?_
  subst h
  refine qS_ok (p := GoodC env Try.prog 34 _) goodC_no fun _ h => ?_
  subst h
  refine vI_ok (p := GoodC env Try.prog 34 _) goodC_no fun _ h => ?_
  subst h
  refine gE_ok (p := GoodC env Try.prog 34 _) goodC_no fun h => ?_
  subst h
  exact fun_good (fun_sound envOK (cs_sound _ (by exact trivial)) (f34.hok k) Try.func34 rfl) ((f34.ev k _ _).trans (f34.nat k _ _ _))
theorem f34.sound (k : Nat) : SoundC env Try.prog 34 (f34.e k).F := soundC_coer (f34.sound0 k) [[.wr 5], [.no]]
theorem f34.says (k : Nat) (xs1 : List Int) (a2 : Int) (t9 : Int × (List Int)) (h_ : f34 k xs1 a2 = some t9) : SoundAt env Try.prog 34 [.v (.c (.wr 5 xs1)), .v (.c (.s (.int .i64 a2)))] ⟨.v (.c (.s (.int .i64 t9.1))), [[.sl 5 t9.2], []]⟩ :=
  fun_sound envOK (cs_sound _ (by exact trivial)) (f34.hok k) Try.func34 rfl _ _ (((f34.ev k xs1 a2).trans (f34.nat k _ xs1 a2)).trans (by rw [h_]; rfl))
theorem f34.fnok : FnOK Try.prog 34 := fn_ok Try.func34 (by kernel_rfl) rfl
def f35.step {R : Type} (k : Nat) (ret : (Int × Bool × Bool × Bool × Bool × Bool × Bool × Bool × Bool × Bool × (List Int)) → Option R) (a1 : Int) (s2 : ByteArray) (s3 : ByteArray) (a4 : Int) (a5 : Int) (a6 : Int) (a7 : Int) (b8 : Bool) (b9 : Bool) (xs10 : List Int) (a11 : Int) : Option R :=
  (f34 k xs10 a11).bind fun t12 => ret (t12.1, false, false, false, false, false, false, false, false, false, t12.2)
def f35 (k : Nat) (a1 : Int) (s2 : ByteArray) (s3 : ByteArray) (a4 : Int) (a5 : Int) (a6 : Int) (a7 : Int) (b8 : Bool) (b9 : Bool) (xs10 : List Int) (a11 : Int) : Option (Int × Bool × Bool × Bool × Bool × Bool × Bool × Bool × Bool × Bool × (List Int)) := f35.step k some a1 s2 s3 a4 a5 a6 a7 b8 b9 xs10 a11
def f35.w {R : Type} : (Int × Bool × Bool × Bool × Bool × Bool × Bool × Bool × Bool × Bool × (List Int)) → (Res env → Option R) → Option R := fun t13 K => K ⟨.v (.c (.s (.int .i64 t13.1))), [[.s (.bool t13.2.1), .s (.bool t13.2.2.1), .s (.bool t13.2.2.2.1), .s (.bool t13.2.2.2.2.1), .s (.bool t13.2.2.2.2.2.1), .s (.bool t13.2.2.2.2.2.2.1), .s (.bool t13.2.2.2.2.2.2.2.1), .s (.bool t13.2.2.2.2.2.2.2.2.1), .s (.bool t13.2.2.2.2.2.2.2.2.2.1), .sl 5 t13.2.2.2.2.2.2.2.2.2.2], []]⟩
theorem f35.wn (x : (Int × Bool × Bool × Bool × Bool × Bool × Bool × Bool × Bool × Bool × (List Int))) : ∃ res, ∀ {R : Type} (K : Res env → Option R), f35.w x K = K res := by
  exact ⟨_, fun _ => rfl⟩
def f35.hd (k : Nat) (ps_ : List (P2 env)) : Cl env :=
  gC Cl.no ps_ fun p_ ps_ => qG Cl.no p_ fun cs_ => gC Cl.no cs_ fun c_ cs_ => qS Cl.no c_ fun v_ => vI Cl.no .i64 v_ fun a1 => gC Cl.no cs_ fun c_ cs_ => qS Cl.no c_ fun v_ => vS Cl.no v_ fun s2 => gC Cl.no cs_ fun c_ cs_ => qS Cl.no c_ fun v_ => vS Cl.no v_ fun s3 => gC Cl.no cs_ fun c_ cs_ => qS Cl.no c_ fun v_ => vI Cl.no .i64 v_ fun a4 => gC Cl.no cs_ fun c_ cs_ => qS Cl.no c_ fun v_ => vI Cl.no .i64 v_ fun a5 => gC Cl.no cs_ fun c_ cs_ => qS Cl.no c_ fun v_ => vI Cl.no .i64 v_ fun a6 => gC Cl.no cs_ fun c_ cs_ => qS Cl.no c_ fun v_ => vI Cl.no .i64 v_ fun a7 => gC Cl.no cs_ fun c_ cs_ => qS Cl.no c_ fun v_ => vB Cl.no v_ fun b8 => gC Cl.no cs_ fun c_ cs_ => qS Cl.no c_ fun v_ => vB Cl.no v_ fun b9 => gC Cl.no cs_ fun c_ cs_ => qWr Cl.no 5 c_ fun xs10 => gE Cl.no cs_ <| gC Cl.no ps_ fun p_ ps_ => qC Cl.no p_ fun c_ => qS Cl.no c_ fun v_ => vI Cl.no .i64 v_ fun a11 => gE Cl.no ps_ <| { α := Int × Bool × Bool × Bool × Bool × Bool × Bool × Bool × Bool × Bool × (List Int), o := f35 k a1 s2 s3 a4 a5 a6 a7 b8 b9 xs10 a11, w := f35.w, nat := fun x _ => f35.wn x }
def f35.e (k : Nat) : Entry env := ⟨fun ps => f35.hd k (coer [[.no, .no, .no, .no, .no, .no, .no, .no, .no, .wr 5], [.no]] ps), [(0, 9)]⟩
def f35.X (k : Nat) : Ctx env := { C := lookE [(34, f34.e k)], L := lookE [], J := lookE [], keep := lookD [], keepX := lookD [], span := lookN [], eff := fun n => memN n [], prep := lookP [], np := 130 }
theorem f35.nat {R : Type} (k : Nat) (g : (Int × Bool × Bool × Bool × Bool × Bool × Bool × Bool × Bool × Bool × (List Int)) → Option R) (a1 : Int) (s2 : ByteArray) (s3 : ByteArray) (a4 : Int) (a5 : Int) (a6 : Int) (a7 : Int) (b8 : Bool) (b9 : Bool) (xs10 : List Int) (a11 : Int) : f35.step k g a1 s2 s3 a4 a5 a6 a7 b8 b9 xs10 a11 = (f35 k a1 s2 s3 a4 a5 a6 a7 b8 b9 xs10 a11).bind g := by
  simp only [f35, f35.step, bind_ite, bind_sum, Option.bind_assoc, Option.bind_some, Option.bind_none]
theorem f35.ev (k : Nat) (a1 : Int) (s2 : ByteArray) (s3 : ByteArray) (a4 : Int) (a5 : Int) (a6 : Int) (a7 : Int) (b8 : Bool) (b9 : Bool) (xs10 : List Int) (a11 : Int) : evF (f35.X k) (bodyOf Try.f35) Try.f35.ntmps Try.f35.results.toList [.g [.s (.int .i64 a1), .s (.string s2), .s (.string s3), .s (.int .i64 a4), .s (.int .i64 a5), .s (.int .i64 a6), .s (.int .i64 a7), .s (.bool b8), .s (.bool b9), .wr 5 xs10], .v (.c (.s (.int .i64 a11)))] = f35.step k (fun x => f35.w x some) a1 s2 s3 a4 a5 a6 a7 b8 b9 xs10 a11 := by kernel_rfl
theorem f35.hok (k : Nat) : HOK (f35.X k) (bodyOf Try.f35) where
  l := allP_mem (by exact trivial)
  j := allP_mem (by exact trivial)
theorem f35.sound0 (k : Nat) : SoundC env Try.prog 35 (f35.hd k) := by
  intro ps_
  show GoodC _ _ _ ps_ (f35.hd k ps_)
  unfold f35.hd
  refine gC_ok (p := GoodC env Try.prog 35 _) goodC_no fun _ _ h => ?_
  subst h
  refine qG_ok (p := GoodC env Try.prog 35 _) goodC_no fun _ h => ?_
  subst h
  refine gC_ok (p := GoodC env Try.prog 35 _) goodC_no fun _ _ h => ?_
  subst h
  refine qS_ok (p := GoodC env Try.prog 35 _) goodC_no fun _ h => ?_
  subst h
  refine vI_ok (p := GoodC env Try.prog 35 _) goodC_no fun _ h => ?_
  subst h
  refine gC_ok (p := GoodC env Try.prog 35 _) goodC_no fun _ _ h => ?_
  subst h
  refine qS_ok (p := GoodC env Try.prog 35 _) goodC_no fun _ h => ?_
  subst h
  refine vS_ok (p := GoodC env Try.prog 35 _) goodC_no fun _ h => ?_
  subst h
  refine gC_ok (p := GoodC env Try.prog 35 _) goodC_no fun _ _ h => ?_
  subst h
  refine qS_ok (p := GoodC env Try.prog 35 _) goodC_no fun _ h => ?_
  subst h
  refine vS_ok (p := GoodC env Try.prog 35 _) goodC_no fun _ h => ?_
  subst h
  refine gC_ok (p := GoodC env Try.prog 35 _) goodC_no fun _ _ h => ?_
  subst h
  refine qS_ok (p := GoodC env Try.prog 35 _) goodC_no fun _ h => ?_
  subst h
  refine vI_ok (p := GoodC env Try.prog 35 _) goodC_no fun _ h => ?_
  subst h
  refine gC_ok (p := GoodC env Try.prog 35 _) goodC_no fun _ _ h => ?_
  subst h
  refine qS_ok (p := GoodC env Try.prog 35 _) goodC_no fun _ h => ?_
  subst h
  refine vI_ok (p := GoodC env Try.prog 35 _) goodC_no fun _ h => ?_
  subst h
  refine gC_ok (p := GoodC env Try.prog 35 _) goodC_no fun _ _ h => ?_
  subst h
  refine qS_ok (p := GoodC env Try.prog 35 _) goodC_no fun _ h => ?_
  subst h
  refine vI_ok (p := GoodC env Try.prog 35 _) goodC_no fun _ h => ?_
  subst h
  refine gC_ok (p := GoodC env Try.prog 35 _) goodC_no fun _ _ h => ?_
  subst h
  refine qS_ok (p := GoodC env Try.prog 35 _) goodC_no fun _ h => ?_
  subst h
  refine vI_ok (p := GoodC env Try.prog 35 _) goodC_no fun _ h => ?_
  subst h
  refine gC_ok (p := GoodC env Try.prog 35 _) goodC_no fun _ _ h => ?_
  subst h
  refine qS_ok (p := GoodC env Try.prog 35 _) goodC_no fun _ h => ?_
  subst h
  refine vB_ok (p := GoodC env Try.prog 35 _) goodC_no fun _ h => ?_
  subst h
  refine gC_ok (p := GoodC env Try.prog 35 _) goodC_no fun _ _ h => ?_
  subst h
  refine qS_ok (p := GoodC env Try.prog 35 _) goodC_no fun _ h => ?_
  subst h
  refine vB_ok (p := GoodC env Try.prog 35 _) goodC_no fun _ h => ?_
  subst h
  refine gC_ok (p := GoodC env Try.prog 35 _) goodC_no fun _ _ h => ?_
  subst h
  refine qWr_ok (p := GoodC env Try.prog 35 _) goodC_no fun _ h => ?_
  subst h
  refine gE_ok (p := GoodC env Try.prog 35 _) goodC_no fun h => ?_
  subst h
  refine gC_ok (p := GoodC env Try.prog 35 _) goodC_no fun _ _ h => ?_
  subst h
  refine qC_ok (p := GoodC env Try.prog 35 _) goodC_no fun _ h => ?_
  subst h
  refine qS_ok (p := GoodC env Try.prog 35 _) goodC_no fun _ h => ?_
  subst h
  refine vI_ok (p := GoodC env Try.prog 35 _) goodC_no fun _ h => ?_
  subst h
  refine gE_ok (p := GoodC env Try.prog 35 _) goodC_no fun h => ?_
  subst h
  exact fun_good (fun_sound envOK (cs_sound _ (by exact ⟨⟨f34.sound k, f34.fnok⟩, trivial⟩)) (f35.hok k) Try.func35 rfl) ((f35.ev k _ _ _ _ _ _ _ _ _ _ _).trans (f35.nat k _ _ _ _ _ _ _ _ _ _ _ _))
theorem f35.sound (k : Nat) : SoundC env Try.prog 35 (f35.e k).F := soundC_coer (f35.sound0 k) [[.no, .no, .no, .no, .no, .no, .no, .no, .no, .wr 5], [.no]]
theorem f35.says (k : Nat) (a1 : Int) (s2 : ByteArray) (s3 : ByteArray) (a4 : Int) (a5 : Int) (a6 : Int) (a7 : Int) (b8 : Bool) (b9 : Bool) (xs10 : List Int) (a11 : Int) (t14 : Int × Bool × Bool × Bool × Bool × Bool × Bool × Bool × Bool × Bool × (List Int)) (h_ : f35 k a1 s2 s3 a4 a5 a6 a7 b8 b9 xs10 a11 = some t14) : SoundAt env Try.prog 35 [.g [.s (.int .i64 a1), .s (.string s2), .s (.string s3), .s (.int .i64 a4), .s (.int .i64 a5), .s (.int .i64 a6), .s (.int .i64 a7), .s (.bool b8), .s (.bool b9), .wr 5 xs10], .v (.c (.s (.int .i64 a11)))] ⟨.v (.c (.s (.int .i64 t14.1))), [[.s (.bool t14.2.1), .s (.bool t14.2.2.1), .s (.bool t14.2.2.2.1), .s (.bool t14.2.2.2.2.1), .s (.bool t14.2.2.2.2.2.1), .s (.bool t14.2.2.2.2.2.2.1), .s (.bool t14.2.2.2.2.2.2.2.1), .s (.bool t14.2.2.2.2.2.2.2.2.1), .s (.bool t14.2.2.2.2.2.2.2.2.2.1), .sl 5 t14.2.2.2.2.2.2.2.2.2.2], []]⟩ :=
  fun_sound envOK (cs_sound _ (by exact ⟨⟨f34.sound k, f34.fnok⟩, trivial⟩)) (f35.hok k) Try.func35 rfl _ _ (((f35.ev k a1 s2 s3 a4 a5 a6 a7 b8 b9 xs10 a11).trans (f35.nat k _ a1 s2 s3 a4 a5 a6 a7 b8 b9 xs10 a11)).trans (by rw [h_]; rfl))
theorem f35.fnok : FnOK Try.prog 35 := fn_ok Try.func35 (by kernel_rfl) rfl
def f122.l4.step {R : Type} (k : Nat) (rec_ : Int → ByteArray → Option R) (ret : ByteArray → Option R) (a2 : Int) (s3 : ByteArray) : Option R :=
  if (decide (a2 > (0 : Int))) = true then
    if ByteArray.size (strOf ([(IntKind.u8.wrap (IntKind.i64.wrap ((48 : Int) + (Int.tmod a2 (10 : Int)))))] : List Int)) + ByteArray.size s3 ≤ maxN then
      rec_ (IntKind.i64.wrap (Int.tdiv a2 (10 : Int))) ((strOf ([(IntKind.u8.wrap (IntKind.i64.wrap ((48 : Int) + (Int.tmod a2 (10 : Int)))))] : List Int)) ++ s3)
    else none
  else
    ret s3
def f122.l4 (k : Nat) : Nat → Int → ByteArray → Option ByteArray
  | 0, _, _ => none
  | j + 1, a2, s3 => f122.l4.step k (fun a2 s3 => f122.l4 k j a2 s3) some a2 s3
def f122.l4.w {R : Type} : ByteArray → (Exit → St env → Option R) → Option R := fun t5 K => K (.exit 0) ⟨fullT [3] 0 20 [.v (.c (.s (.string t5)))], [], 289⟩
def f122.l4.st (a2 : Int) (s3 : ByteArray) : St env := ⟨fullT [0, 3] 0 20 [.v (.c (.s (.int .i64 a2))), .v (.c (.s (.string s3)))], [], 65⟩
def f122.l4.hd (k : Nat) (ts_ : List (AV env)) (mm_ : Mem env) (n_ : Nat) : LCl env :=
  gTs LCl.no [0, 3] 20 ts_ fun l_ => gV LCl.no l_ fun a_ l_ => rV LCl.no a_ fun v_ => vI LCl.no .i64 v_ fun a2 => gV LCl.no l_ fun a_ l_ => rV LCl.no a_ fun v_ => vS LCl.no v_ fun s3 => gE LCl.no l_ <| gE LCl.no mm_ <| gN LCl.no 65 n_ { α := ByteArray, o := f122.l4 k k a2 s3, w := f122.l4.w }
def f122.step {R : Type} (k : Nat) (ret : ByteArray → Option R) (a1 : Int) : Option R :=
  if (decide (a1 ≤ (0 : Int))) = true then
    ret (⟨#[109, 48]⟩ : ByteArray)
  else
    (f122.l4 k k a1 (⟨#[]⟩ : ByteArray)).bind fun t4 => if ByteArray.size (⟨#[109]⟩ : ByteArray) + ByteArray.size t4 ≤ maxN then
        ret ((⟨#[109]⟩ : ByteArray) ++ t4)
      else none
def f122 (k : Nat) (a1 : Int) : Option ByteArray := f122.step k some a1
def f122.w {R : Type} : ByteArray → (Res env → Option R) → Option R := fun t6 K => K ⟨.v (.c (.s (.string t6))), [[]]⟩
theorem f122.wn (x : ByteArray) : ∃ res, ∀ {R : Type} (K : Res env → Option R), f122.w x K = K res := by
  exact ⟨_, fun _ => rfl⟩
def f122.hd (k : Nat) (ps_ : List (P2 env)) : Cl env :=
  gC Cl.no ps_ fun p_ ps_ => qC Cl.no p_ fun c_ => qS Cl.no c_ fun v_ => vI Cl.no .i64 v_ fun a1 => gE Cl.no ps_ <| { α := ByteArray, o := f122 k a1, w := f122.w, nat := fun x _ => f122.wn x }
def f122.e (k : Nat) : Entry env := ⟨f122.hd k, []⟩
def f122.X (k : Nat) : Ctx env := { C := lookE [], L := lookE [(4, fun S => f122.l4.hd k S.ts S.m S.n)], J := lookE [], keep := lookD [(4, [0, 3])], keepX := lookD [(4, [3])], span := lookN [(4, 224)], eff := fun n => memN n [], prep := lookP [], np := 0 }
theorem f122.l4.nat {R : Type} (k : Nat) (rec_ : Int → ByteArray → Option ByteArray) (g : ByteArray → Option R) (a2 : Int) (s3 : ByteArray) : (f122.l4.step k rec_ some a2 s3).bind g = f122.l4.step k (fun a2 s3 => (rec_ a2 s3).bind g) g a2 s3 := by
  simp only [f122.l4.step, bind_ite, bind_sum, Option.bind_assoc, Option.bind_some, Option.bind_none]
theorem f122.l4.good (k : Nat) (a2 : Int) (s3 : ByteArray) : GoodL (f122.X k) (nthC 0 (loopsOf (bodyOf Try.f122))) (f122.l4.st a2 s3) { α := ByteArray, o := f122.l4 k k a2 s3, w := f122.l4.w } :=
  loop_good (ι := Int × ByteArray) (α := ByteArray) (fun i => f122.l4.st i.1 i.2) (fun j i => f122.l4 k j i.1 i.2) f122.l4.w (fun rec_ ret i => f122.l4.step k (fun a2 s3 => rec_ (a2, s3)) ret i.1 i.2)
    (fun _ => rfl) (fun _ _ => rfl) (fun rec_ g i => f122.l4.nat k _ g i.1 i.2) (fun {R} i0 i rec_ K => by kernel_rfl) k (a2, s3)
theorem f122.l4.all (k : Nat) (S : St env) : GoodL (f122.X k) (nthC 0 (loopsOf (bodyOf Try.f122))) S (f122.l4.hd k S.ts S.m S.n) := by
  obtain ⟨ts_, m_, n_⟩ := S
  show GoodL _ _ _ (f122.l4.hd k ts_ m_ n_)
  unfold f122.l4.hd
  refine gTs_ok (p := GoodL _ _ _) goodL_no fun _ h => ?_
  subst h
  refine gV_ok (p := GoodL _ _ _) goodL_no fun _ _ h => ?_
  subst h
  refine rV_ok (p := GoodL _ _ _) goodL_no fun _ h => ?_
  subst h
  refine vI_ok (p := GoodL _ _ _) goodL_no fun _ h => ?_
  subst h
  refine gV_ok (p := GoodL _ _ _) goodL_no fun _ _ h => ?_
  subst h
  refine rV_ok (p := GoodL _ _ _) goodL_no fun _ h => ?_
  subst h
  refine vS_ok (p := GoodL _ _ _) goodL_no fun _ h => ?_
  subst h
  refine gE_ok (p := GoodL _ _ _) goodL_no fun h => ?_
  subst h
  refine gE_ok (p := GoodL _ _ _) goodL_no fun h => ?_
  subst h
  refine gN_ok (p := GoodL _ _ _) goodL_no fun h => ?_
  subst h
  exact f122.l4.good k _ _
theorem f122.nat {R : Type} (k : Nat) (g : ByteArray → Option R) (a1 : Int) : f122.step k g a1 = (f122 k a1).bind g := by
  simp only [f122, f122.step, bind_ite, bind_sum, Option.bind_assoc, Option.bind_some, Option.bind_none]
theorem f122.ev (k : Nat) (a1 : Int) : evF (f122.X k) (bodyOf Try.f122) Try.f122.ntmps Try.f122.results.toList [.v (.c (.s (.int .i64 a1)))] = f122.step k (fun x => f122.w x some) a1 := by kernel_rfl
theorem f122.hok (k : Nat) : HOK (f122.X k) (bodyOf Try.f122) where
  l := allP_mem (by exact ⟨ls_of (h0 := fun S => f122.l4.hd k S.ts S.m S.n) (by kernel_rfl) (f122.l4.all k), trivial⟩)
  j := allP_mem (by exact trivial)
theorem f122.sound (k : Nat) : SoundC env Try.prog 122 ((f122.e k).F) := by
  intro ps_
  show GoodC _ _ _ ps_ (f122.hd k ps_)
  unfold f122.hd
  refine gC_ok (p := GoodC env Try.prog 122 _) goodC_no fun _ _ h => ?_
  subst h
  refine qC_ok (p := GoodC env Try.prog 122 _) goodC_no fun _ h => ?_
  subst h
  refine qS_ok (p := GoodC env Try.prog 122 _) goodC_no fun _ h => ?_
  subst h
  refine vI_ok (p := GoodC env Try.prog 122 _) goodC_no fun _ h => ?_
  subst h
  refine gE_ok (p := GoodC env Try.prog 122 _) goodC_no fun h => ?_
  subst h
  exact fun_good (fun_sound envOK (cs_sound _ (by exact trivial)) (f122.hok k) Try.func122 rfl) ((f122.ev k _).trans (f122.nat k _ _))
theorem f122.says (k : Nat) (a1 : Int) (t7 : ByteArray) (h_ : f122 k a1 = some t7) : SoundAt env Try.prog 122 [.v (.c (.s (.int .i64 a1)))] ⟨.v (.c (.s (.string t7))), [[]]⟩ :=
  fun_sound envOK (cs_sound _ (by exact trivial)) (f122.hok k) Try.func122 rfl _ _ (((f122.ev k a1).trans (f122.nat k _ a1)).trans (by rw [h_]; rfl))
theorem f122.fnok : FnOK Try.prog 122 := fn_ok Try.func122 (by kernel_rfl) rfl
def f62.l2.step {R : Type} (k : Nat) (rec_ : Int → Int → (List S24) → Option R) (ret : (Int × (List S24)) → Option R) (a3 : Int) (a4 : Int) (xs5 : List S24) : Option R :=
  if (decide (a4 < (((List.length xs5) : Nat) : Int))) = true then
    if (0 : Int) ≤ a4 then
      if a4 < ((List.length xs5 : Nat) : Int) then
        (f122 k (IntKind.i64.wrap (a3 + (1 : Int)))).bind fun t6 => if (0 : Int) ≤ a4 then
            if a4 < ((List.length (set24 xs5 (Int.toNat a4) 0 [.s (.int .i64 a3)]) : Nat) : Int) then
              (f122 k (IntKind.i64.wrap ((IntKind.i64.wrap (a3 + (1 : Int))) + (1 : Int)))).bind fun t7 => if (0 : Int) ≤ a4 then
                  if a4 < ((List.length (set24 (set24 xs5 (Int.toNat a4) 0 [.s (.int .i64 a3)]) (Int.toNat a4) 1 [.s (.string t6)]) : Nat) : Int) then
                    if (0 : Int) ≤ a4 then
                      if a4 < ((List.length (set24 (set24 (set24 xs5 (Int.toNat a4) 0 [.s (.int .i64 a3)]) (Int.toNat a4) 1 [.s (.string t6)]) (Int.toNat a4) 2 [.s (.string t7)]) : Nat) : Int) then
                        if (0 : Int) ≤ a4 then
                          if a4 < ((List.length (set24 (set24 (set24 (set24 xs5 (Int.toNat a4) 0 [.s (.int .i64 a3)]) (Int.toNat a4) 1 [.s (.string t6)]) (Int.toNat a4) 2 [.s (.string t7)]) (Int.toNat a4) 3 [.s (.int .i64 (IntKind.i64.wrap ((IntKind.i64.wrap ((IntKind.i64.wrap (a3 + (1 : Int))) + (1 : Int))) + (1 : Int))))]) : Nat) : Int) then
                            if (0 : Int) ≤ a4 then
                              if a4 < ((List.length (set24 (set24 (set24 (set24 (set24 xs5 (Int.toNat a4) 0 [.s (.int .i64 a3)]) (Int.toNat a4) 1 [.s (.string t6)]) (Int.toNat a4) 2 [.s (.string t7)]) (Int.toNat a4) 3 [.s (.int .i64 (IntKind.i64.wrap ((IntKind.i64.wrap ((IntKind.i64.wrap (a3 + (1 : Int))) + (1 : Int))) + (1 : Int))))]) (Int.toNat a4) 4 [.s (.int .i64 (IntKind.i64.wrap ((IntKind.i64.wrap ((IntKind.i64.wrap ((IntKind.i64.wrap (a3 + (1 : Int))) + (1 : Int))) + (1 : Int))) + (1 : Int))))]) : Nat) : Int) then
                                if (0 : Int) ≤ a4 then
                                  if a4 < ((List.length (set24 (set24 (set24 (set24 (set24 (set24 xs5 (Int.toNat a4) 0 [.s (.int .i64 a3)]) (Int.toNat a4) 1 [.s (.string t6)]) (Int.toNat a4) 2 [.s (.string t7)]) (Int.toNat a4) 3 [.s (.int .i64 (IntKind.i64.wrap ((IntKind.i64.wrap ((IntKind.i64.wrap (a3 + (1 : Int))) + (1 : Int))) + (1 : Int))))]) (Int.toNat a4) 4 [.s (.int .i64 (IntKind.i64.wrap ((IntKind.i64.wrap ((IntKind.i64.wrap ((IntKind.i64.wrap (a3 + (1 : Int))) + (1 : Int))) + (1 : Int))) + (1 : Int))))]) (Int.toNat a4) 5 [.s (.int .i64 (IntKind.i64.wrap ((IntKind.i64.wrap ((IntKind.i64.wrap ((IntKind.i64.wrap ((IntKind.i64.wrap (a3 + (1 : Int))) + (1 : Int))) + (1 : Int))) + (1 : Int))) + (1 : Int))))]) : Nat) : Int) then
                                    if (0 : Int) ≤ a4 then
                                      if a4 < ((List.length (set24 (set24 (set24 (set24 (set24 (set24 (set24 xs5 (Int.toNat a4) 0 [.s (.int .i64 a3)]) (Int.toNat a4) 1 [.s (.string t6)]) (Int.toNat a4) 2 [.s (.string t7)]) (Int.toNat a4) 3 [.s (.int .i64 (IntKind.i64.wrap ((IntKind.i64.wrap ((IntKind.i64.wrap (a3 + (1 : Int))) + (1 : Int))) + (1 : Int))))]) (Int.toNat a4) 4 [.s (.int .i64 (IntKind.i64.wrap ((IntKind.i64.wrap ((IntKind.i64.wrap ((IntKind.i64.wrap (a3 + (1 : Int))) + (1 : Int))) + (1 : Int))) + (1 : Int))))]) (Int.toNat a4) 5 [.s (.int .i64 (IntKind.i64.wrap ((IntKind.i64.wrap ((IntKind.i64.wrap ((IntKind.i64.wrap ((IntKind.i64.wrap (a3 + (1 : Int))) + (1 : Int))) + (1 : Int))) + (1 : Int))) + (1 : Int))))]) (Int.toNat a4) 6 [.s (.int .i64 (IntKind.i64.wrap ((IntKind.i64.wrap ((IntKind.i64.wrap ((IntKind.i64.wrap ((IntKind.i64.wrap ((IntKind.i64.wrap (a3 + (1 : Int))) + (1 : Int))) + (1 : Int))) + (1 : Int))) + (1 : Int))) + (1 : Int))))]) : Nat) : Int) then
                                        if (0 : Int) ≤ a4 then
                                          if a4 < ((List.length (set24 (set24 (set24 (set24 (set24 (set24 (set24 (set24 xs5 (Int.toNat a4) 0 [.s (.int .i64 a3)]) (Int.toNat a4) 1 [.s (.string t6)]) (Int.toNat a4) 2 [.s (.string t7)]) (Int.toNat a4) 3 [.s (.int .i64 (IntKind.i64.wrap ((IntKind.i64.wrap ((IntKind.i64.wrap (a3 + (1 : Int))) + (1 : Int))) + (1 : Int))))]) (Int.toNat a4) 4 [.s (.int .i64 (IntKind.i64.wrap ((IntKind.i64.wrap ((IntKind.i64.wrap ((IntKind.i64.wrap (a3 + (1 : Int))) + (1 : Int))) + (1 : Int))) + (1 : Int))))]) (Int.toNat a4) 5 [.s (.int .i64 (IntKind.i64.wrap ((IntKind.i64.wrap ((IntKind.i64.wrap ((IntKind.i64.wrap ((IntKind.i64.wrap (a3 + (1 : Int))) + (1 : Int))) + (1 : Int))) + (1 : Int))) + (1 : Int))))]) (Int.toNat a4) 6 [.s (.int .i64 (IntKind.i64.wrap ((IntKind.i64.wrap ((IntKind.i64.wrap ((IntKind.i64.wrap ((IntKind.i64.wrap ((IntKind.i64.wrap (a3 + (1 : Int))) + (1 : Int))) + (1 : Int))) + (1 : Int))) + (1 : Int))) + (1 : Int))))]) (Int.toNat a4) 7 [.s (.bool (decide ((Int.tmod (IntKind.i64.wrap ((IntKind.i64.wrap ((IntKind.i64.wrap ((IntKind.i64.wrap ((IntKind.i64.wrap ((IntKind.i64.wrap ((IntKind.i64.wrap (a3 + (1 : Int))) + (1 : Int))) + (1 : Int))) + (1 : Int))) + (1 : Int))) + (1 : Int))) + (1 : Int))) (3 : Int)) = (0 : Int))))]) : Nat) : Int) then
                                            if (0 : Int) ≤ a4 then
                                              if a4 < ((List.length (set24 (set24 (set24 (set24 (set24 (set24 (set24 (set24 (set24 xs5 (Int.toNat a4) 0 [.s (.int .i64 a3)]) (Int.toNat a4) 1 [.s (.string t6)]) (Int.toNat a4) 2 [.s (.string t7)]) (Int.toNat a4) 3 [.s (.int .i64 (IntKind.i64.wrap ((IntKind.i64.wrap ((IntKind.i64.wrap (a3 + (1 : Int))) + (1 : Int))) + (1 : Int))))]) (Int.toNat a4) 4 [.s (.int .i64 (IntKind.i64.wrap ((IntKind.i64.wrap ((IntKind.i64.wrap ((IntKind.i64.wrap (a3 + (1 : Int))) + (1 : Int))) + (1 : Int))) + (1 : Int))))]) (Int.toNat a4) 5 [.s (.int .i64 (IntKind.i64.wrap ((IntKind.i64.wrap ((IntKind.i64.wrap ((IntKind.i64.wrap ((IntKind.i64.wrap (a3 + (1 : Int))) + (1 : Int))) + (1 : Int))) + (1 : Int))) + (1 : Int))))]) (Int.toNat a4) 6 [.s (.int .i64 (IntKind.i64.wrap ((IntKind.i64.wrap ((IntKind.i64.wrap ((IntKind.i64.wrap ((IntKind.i64.wrap ((IntKind.i64.wrap (a3 + (1 : Int))) + (1 : Int))) + (1 : Int))) + (1 : Int))) + (1 : Int))) + (1 : Int))))]) (Int.toNat a4) 7 [.s (.bool (decide ((Int.tmod (IntKind.i64.wrap ((IntKind.i64.wrap ((IntKind.i64.wrap ((IntKind.i64.wrap ((IntKind.i64.wrap ((IntKind.i64.wrap ((IntKind.i64.wrap (a3 + (1 : Int))) + (1 : Int))) + (1 : Int))) + (1 : Int))) + (1 : Int))) + (1 : Int))) + (1 : Int))) (3 : Int)) = (0 : Int))))]) (Int.toNat a4) 8 [.s (.bool (decide ((Int.tmod (IntKind.i64.wrap ((IntKind.i64.wrap ((IntKind.i64.wrap ((IntKind.i64.wrap ((IntKind.i64.wrap ((IntKind.i64.wrap ((IntKind.i64.wrap ((IntKind.i64.wrap (a3 + (1 : Int))) + (1 : Int))) + (1 : Int))) + (1 : Int))) + (1 : Int))) + (1 : Int))) + (1 : Int))) + (1 : Int))) (3 : Int)) = (0 : Int))))]) : Nat) : Int) then
                                                (f34 k (List.getD (set24 (set24 (set24 (set24 (set24 (set24 (set24 (set24 (set24 xs5 (Int.toNat a4) 0 [.s (.int .i64 a3)]) (Int.toNat a4) 1 [.s (.string t6)]) (Int.toNat a4) 2 [.s (.string t7)]) (Int.toNat a4) 3 [.s (.int .i64 (IntKind.i64.wrap ((IntKind.i64.wrap ((IntKind.i64.wrap (a3 + (1 : Int))) + (1 : Int))) + (1 : Int))))]) (Int.toNat a4) 4 [.s (.int .i64 (IntKind.i64.wrap ((IntKind.i64.wrap ((IntKind.i64.wrap ((IntKind.i64.wrap (a3 + (1 : Int))) + (1 : Int))) + (1 : Int))) + (1 : Int))))]) (Int.toNat a4) 5 [.s (.int .i64 (IntKind.i64.wrap ((IntKind.i64.wrap ((IntKind.i64.wrap ((IntKind.i64.wrap ((IntKind.i64.wrap (a3 + (1 : Int))) + (1 : Int))) + (1 : Int))) + (1 : Int))) + (1 : Int))))]) (Int.toNat a4) 6 [.s (.int .i64 (IntKind.i64.wrap ((IntKind.i64.wrap ((IntKind.i64.wrap ((IntKind.i64.wrap ((IntKind.i64.wrap ((IntKind.i64.wrap (a3 + (1 : Int))) + (1 : Int))) + (1 : Int))) + (1 : Int))) + (1 : Int))) + (1 : Int))))]) (Int.toNat a4) 7 [.s (.bool (decide ((Int.tmod (IntKind.i64.wrap ((IntKind.i64.wrap ((IntKind.i64.wrap ((IntKind.i64.wrap ((IntKind.i64.wrap ((IntKind.i64.wrap ((IntKind.i64.wrap (a3 + (1 : Int))) + (1 : Int))) + (1 : Int))) + (1 : Int))) + (1 : Int))) + (1 : Int))) + (1 : Int))) (3 : Int)) = (0 : Int))))]) (Int.toNat a4) 8 [.s (.bool (decide ((Int.tmod (IntKind.i64.wrap ((IntKind.i64.wrap ((IntKind.i64.wrap ((IntKind.i64.wrap ((IntKind.i64.wrap ((IntKind.i64.wrap ((IntKind.i64.wrap ((IntKind.i64.wrap (a3 + (1 : Int))) + (1 : Int))) + (1 : Int))) + (1 : Int))) + (1 : Int))) + (1 : Int))) + (1 : Int))) + (1 : Int))) (3 : Int)) = (0 : Int))))]) (Int.toNat a4) (⟨(0 : Int), ByteArray.empty, ByteArray.empty, (0 : Int), (0 : Int), (0 : Int), (0 : Int), false, false, []⟩ : S24)).f9 (IntKind.i64.wrap ((IntKind.i64.wrap ((IntKind.i64.wrap ((IntKind.i64.wrap ((IntKind.i64.wrap ((IntKind.i64.wrap ((IntKind.i64.wrap ((IntKind.i64.wrap ((IntKind.i64.wrap (a3 + (1 : Int))) + (1 : Int))) + (1 : Int))) + (1 : Int))) + (1 : Int))) + (1 : Int))) + (1 : Int))) + (1 : Int))) + (1 : Int)))).bind fun t8 => rec_ t8.1 (IntKind.i64.wrap (a4 + (1 : Int))) (set24 (set24 (set24 (set24 (set24 (set24 (set24 (set24 (set24 (set24 xs5 (Int.toNat a4) 0 [.s (.int .i64 a3)]) (Int.toNat a4) 1 [.s (.string t6)]) (Int.toNat a4) 2 [.s (.string t7)]) (Int.toNat a4) 3 [.s (.int .i64 (IntKind.i64.wrap ((IntKind.i64.wrap ((IntKind.i64.wrap (a3 + (1 : Int))) + (1 : Int))) + (1 : Int))))]) (Int.toNat a4) 4 [.s (.int .i64 (IntKind.i64.wrap ((IntKind.i64.wrap ((IntKind.i64.wrap ((IntKind.i64.wrap (a3 + (1 : Int))) + (1 : Int))) + (1 : Int))) + (1 : Int))))]) (Int.toNat a4) 5 [.s (.int .i64 (IntKind.i64.wrap ((IntKind.i64.wrap ((IntKind.i64.wrap ((IntKind.i64.wrap ((IntKind.i64.wrap (a3 + (1 : Int))) + (1 : Int))) + (1 : Int))) + (1 : Int))) + (1 : Int))))]) (Int.toNat a4) 6 [.s (.int .i64 (IntKind.i64.wrap ((IntKind.i64.wrap ((IntKind.i64.wrap ((IntKind.i64.wrap ((IntKind.i64.wrap ((IntKind.i64.wrap (a3 + (1 : Int))) + (1 : Int))) + (1 : Int))) + (1 : Int))) + (1 : Int))) + (1 : Int))))]) (Int.toNat a4) 7 [.s (.bool (decide ((Int.tmod (IntKind.i64.wrap ((IntKind.i64.wrap ((IntKind.i64.wrap ((IntKind.i64.wrap ((IntKind.i64.wrap ((IntKind.i64.wrap ((IntKind.i64.wrap (a3 + (1 : Int))) + (1 : Int))) + (1 : Int))) + (1 : Int))) + (1 : Int))) + (1 : Int))) + (1 : Int))) (3 : Int)) = (0 : Int))))]) (Int.toNat a4) 8 [.s (.bool (decide ((Int.tmod (IntKind.i64.wrap ((IntKind.i64.wrap ((IntKind.i64.wrap ((IntKind.i64.wrap ((IntKind.i64.wrap ((IntKind.i64.wrap ((IntKind.i64.wrap ((IntKind.i64.wrap (a3 + (1 : Int))) + (1 : Int))) + (1 : Int))) + (1 : Int))) + (1 : Int))) + (1 : Int))) + (1 : Int))) + (1 : Int))) (3 : Int)) = (0 : Int))))]) (Int.toNat a4) 9 [.sl 5 t8.2])
                                              else none
                                            else none
                                          else none
                                        else none
                                      else none
                                    else none
                                  else none
                                else none
                              else none
                            else none
                          else none
                        else none
                      else none
                    else none
                  else none
                else none
            else none
          else none
      else none
    else none
  else
    ret (a3, xs5)
def f62.l2 (k : Nat) : Nat → Int → Int → (List S24) → Option (Int × (List S24))
  | 0, _, _, _ => none
  | j + 1, a3, a4, xs5 => f62.l2.step k (fun a3 a4 xs5 => f62.l2 k j a3 a4 xs5) some a3 a4 xs5
def f62.l2.w {R : Type} : (Int × (List S24)) → (Exit → St env → Option R) → Option R := fun t10 K => K (.exit 0) ⟨fullT [0, 1] 0 89 [.v (.c (.row 2)), .v (.c (.s (.int .i64 t10.1)))], [(2, .row true 24 t10.2)], 1794⟩
def f62.l2.st (a3 : Int) (a4 : Int) (xs5 : List S24) : St env := ⟨fullT [0, 1, 5] 0 89 [.v (.c (.row 2)), .v (.c (.s (.int .i64 a3))), .v (.c (.s (.int .i64 a4)))], [(2, .row true 24 xs5)], 162⟩
def f62.l2.hd (k : Nat) (ts_ : List (AV env)) (mm_ : Mem env) (n_ : Nat) : LCl env :=
  gTs LCl.no [0, 1, 5] 89 ts_ fun l_ => gV LCl.no l_ fun a_ l_ => rRow LCl.no 2 a_ <| gV LCl.no l_ fun a_ l_ => rV LCl.no a_ fun v_ => vI LCl.no .i64 v_ fun a3 => gV LCl.no l_ fun a_ l_ => rV LCl.no a_ fun v_ => vI LCl.no .i64 v_ fun a4 => gE LCl.no l_ <| mRow LCl.no 2 true 24 mm_ fun xs5 m_ => gE LCl.no m_ <| gN LCl.no 162 n_ { α := Int × (List S24), o := f62.l2 k k a3 a4 xs5, w := f62.l2.w }
def f62.step {R : Type} (k : Nat) (ret : (Int × (List S24)) → Option R) (xs1 : List S24) (a2 : Int) : Option R :=
  (f62.l2 k k a2 (0 : Int) xs1).bind fun t9 => ret (t9.1, t9.2)
def f62 (k : Nat) (xs1 : List S24) (a2 : Int) : Option (Int × (List S24)) := f62.step k some xs1 a2
def f62.w {R : Type} : (Int × (List S24)) → (Res env → Option R) → Option R := fun t11 K => K ⟨.v (.c (.s (.int .i64 t11.1))), [[.sl 24 t11.2], []]⟩
theorem f62.wn (x : (Int × (List S24))) : ∃ res, ∀ {R : Type} (K : Res env → Option R), f62.w x K = K res := by
  exact ⟨_, fun _ => rfl⟩
def f62.hd (k : Nat) (ps_ : List (P2 env)) : Cl env :=
  gC Cl.no ps_ fun p_ ps_ => qC Cl.no p_ fun c_ => qWr Cl.no 24 c_ fun xs1 => gC Cl.no ps_ fun p_ ps_ => qC Cl.no p_ fun c_ => qS Cl.no c_ fun v_ => vI Cl.no .i64 v_ fun a2 => gE Cl.no ps_ <| { α := Int × (List S24), o := f62 k xs1 a2, w := f62.w, nat := fun x _ => f62.wn x }
def f62.e (k : Nat) : Entry env := ⟨fun ps => f62.hd k (coer [[.wr 24], [.no]] ps), [(0, 0)]⟩
def f62.X (k : Nat) : Ctx env := { C := lookE [(34, f34.e k), (122, f122.e k)], L := lookE [(2, fun S => f62.l2.hd k S.ts S.m S.n)], J := lookE [], keep := lookD [(2, [0, 1, 5])], keepX := lookD [(2, [0, 1])], span := lookN [(2, 1632)], eff := fun n => memN n [], prep := lookP [], np := 130 }
theorem f62.l2.nat {R : Type} (k : Nat) (rec_ : Int → Int → (List S24) → Option (Int × (List S24))) (g : (Int × (List S24)) → Option R) (a3 : Int) (a4 : Int) (xs5 : List S24) : (f62.l2.step k rec_ some a3 a4 xs5).bind g = f62.l2.step k (fun a3 a4 xs5 => (rec_ a3 a4 xs5).bind g) g a3 a4 xs5 := by
  simp only [f62.l2.step, bind_ite, bind_sum, Option.bind_assoc, Option.bind_some, Option.bind_none]
theorem f62.l2.good (k : Nat) (a3 : Int) (a4 : Int) (xs5 : List S24) : GoodL (f62.X k) (nthC 0 (loopsOf (bodyOf Try.f62))) (f62.l2.st a3 a4 xs5) { α := (Int × (List S24)), o := f62.l2 k k a3 a4 xs5, w := f62.l2.w } :=
  loop_good (ι := Int × Int × (List S24)) (α := (Int × (List S24))) (fun i => f62.l2.st i.1 i.2.1 i.2.2) (fun j i => f62.l2 k j i.1 i.2.1 i.2.2) f62.l2.w (fun rec_ ret i => f62.l2.step k (fun a3 a4 xs5 => rec_ (a3, a4, xs5)) ret i.1 i.2.1 i.2.2)
    (fun _ => rfl) (fun _ _ => rfl) (fun rec_ g i => f62.l2.nat k _ g i.1 i.2.1 i.2.2) (fun {R} i0 i rec_ K => by kernel_rfl) k (a3, a4, xs5)
theorem f62.l2.all (k : Nat) (S : St env) : GoodL (f62.X k) (nthC 0 (loopsOf (bodyOf Try.f62))) S (f62.l2.hd k S.ts S.m S.n) := by
  obtain ⟨ts_, m_, n_⟩ := S
  show GoodL _ _ _ (f62.l2.hd k ts_ m_ n_)
  unfold f62.l2.hd
  refine gTs_ok (p := GoodL _ _ _) goodL_no fun _ h => ?_
  subst h
  refine gV_ok (p := GoodL _ _ _) goodL_no fun _ _ h => ?_
  subst h
  refine rRow_ok (p := GoodL _ _ _) goodL_no fun h => ?_
  subst h
  refine gV_ok (p := GoodL _ _ _) goodL_no fun _ _ h => ?_
  subst h
  refine rV_ok (p := GoodL _ _ _) goodL_no fun _ h => ?_
  subst h
  refine vI_ok (p := GoodL _ _ _) goodL_no fun _ h => ?_
  subst h
  refine gV_ok (p := GoodL _ _ _) goodL_no fun _ _ h => ?_
  subst h
  refine rV_ok (p := GoodL _ _ _) goodL_no fun _ h => ?_
  subst h
  refine vI_ok (p := GoodL _ _ _) goodL_no fun _ h => ?_
  subst h
  refine gE_ok (p := GoodL _ _ _) goodL_no fun h => ?_
  subst h
  refine mRow_ok (p := GoodL _ _ _) goodL_no fun _ _ h => ?_
  subst h
  refine gE_ok (p := GoodL _ _ _) goodL_no fun h => ?_
  subst h
  refine gN_ok (p := GoodL _ _ _) goodL_no fun h => ?_
  subst h
  exact f62.l2.good k _ _ _
theorem f62.nat {R : Type} (k : Nat) (g : (Int × (List S24)) → Option R) (xs1 : List S24) (a2 : Int) : f62.step k g xs1 a2 = (f62 k xs1 a2).bind g := by
  simp only [f62, f62.step, bind_ite, bind_sum, Option.bind_assoc, Option.bind_some, Option.bind_none]
theorem f62.ev (k : Nat) (xs1 : List S24) (a2 : Int) : evF (f62.X k) (bodyOf Try.f62) Try.f62.ntmps Try.f62.results.toList [.v (.c (.wr 24 xs1)), .v (.c (.s (.int .i64 a2)))] = f62.step k (fun x => f62.w x some) xs1 a2 := by kernel_rfl
theorem f62.hok (k : Nat) : HOK (f62.X k) (bodyOf Try.f62) where
  l := allP_mem (by exact ⟨ls_of (h0 := fun S => f62.l2.hd k S.ts S.m S.n) (by kernel_rfl) (f62.l2.all k), trivial⟩)
  j := allP_mem (by exact trivial)
theorem f62.sound0 (k : Nat) : SoundC env Try.prog 62 (f62.hd k) := by
  intro ps_
  show GoodC _ _ _ ps_ (f62.hd k ps_)
  unfold f62.hd
  refine gC_ok (p := GoodC env Try.prog 62 _) goodC_no fun _ _ h => ?_
  subst h
  refine qC_ok (p := GoodC env Try.prog 62 _) goodC_no fun _ h => ?_
  subst h
  refine qWr_ok (p := GoodC env Try.prog 62 _) goodC_no fun _ h => ?_
  subst h
  refine gC_ok (p := GoodC env Try.prog 62 _) goodC_no fun _ _ h => ?_
  subst h
  refine qC_ok (p := GoodC env Try.prog 62 _) goodC_no fun _ h => ?_
  subst h
  refine qS_ok (p := GoodC env Try.prog 62 _) goodC_no fun _ h => ?_
  subst h
  refine vI_ok (p := GoodC env Try.prog 62 _) goodC_no fun _ h => ?_
  subst h
  refine gE_ok (p := GoodC env Try.prog 62 _) goodC_no fun h => ?_
  subst h
  exact fun_good (fun_sound envOK (cs_sound _ (by exact ⟨⟨f34.sound k, f34.fnok⟩, ⟨f122.sound k, f122.fnok⟩, trivial⟩)) (f62.hok k) Try.func62 rfl) ((f62.ev k _ _).trans (f62.nat k _ _ _))
theorem f62.sound (k : Nat) : SoundC env Try.prog 62 (f62.e k).F := soundC_coer (f62.sound0 k) [[.wr 24], [.no]]
theorem f62.says (k : Nat) (xs1 : List S24) (a2 : Int) (t12 : Int × (List S24)) (h_ : f62 k xs1 a2 = some t12) : SoundAt env Try.prog 62 [.v (.c (.wr 24 xs1)), .v (.c (.s (.int .i64 a2)))] ⟨.v (.c (.s (.int .i64 t12.1))), [[.sl 24 t12.2], []]⟩ :=
  fun_sound envOK (cs_sound _ (by exact ⟨⟨f34.sound k, f34.fnok⟩, ⟨f122.sound k, f122.fnok⟩, trivial⟩)) (f62.hok k) Try.func62 rfl _ _ (((f62.ev k xs1 a2).trans (f62.nat k _ xs1 a2)).trans (by rw [h_]; rfl))
theorem f62.fnok : FnOK Try.prog 62 := fn_ok Try.func62 (by kernel_rfl) rfl
def f95.l2.step {R : Type} (k : Nat) (rec_ : (List Int) → Int → Int → Option R) (ret : ((Int × Int) ⊕ (Int)) → Option R) (xs3 : List Int) (a4 : Int) (a5 : Int) : Option R :=
  if (decide (a5 < (((List.length xs3) : Nat) : Int))) = true then
    if (0 : Int) ≤ a5 then
      if a5 < ((List.length xs3 : Nat) : Int) then
        if (decide ((List.getD xs3 (Int.toNat a5) (0 : Int)) ≠ (IntKind.u8.wrap a4))) = true then
          ret (.inl (a4, (-1 : Int)))
        else
          rec_ xs3 (IntKind.i64.wrap (a4 + (1 : Int))) (IntKind.i64.wrap (a5 + (1 : Int)))
      else none
    else none
  else
    ret (.inr a4)
def f95.l2 (k : Nat) : Nat → (List Int) → Int → Int → Option ((Int × Int) ⊕ (Int))
  | 0, _, _, _ => none
  | j + 1, xs3, a4, a5 => f95.l2.step k (fun xs3 a4 a5 => f95.l2 k j xs3 a4 a5) some xs3 a4 a5
def f95.l2.w {R : Type} : ((Int × Int) ⊕ (Int)) → (Exit → St env → Option R) → Option R := fun x K => Sum.elim (fun t8 => K .ret ⟨fullT [1, 4] 0 22 [.v (.c (.s (.int .i64 t8.1))), .v (.c (.s (.int .i64 t8.2)))], [], 322⟩) (fun t9 => K (.exit 0) ⟨fullT [1] 0 22 [.v (.c (.s (.int .i64 t9)))], [], 322⟩) x
def f95.l2.st (xs3 : List Int) (a4 : Int) (a5 : Int) : St env := ⟨fullT [0, 1, 5] 0 22 [.v (.c (.imm 5 xs3)), .v (.c (.s (.int .i64 a4))), .v (.c (.s (.int .i64 a5)))], [], 34⟩
def f95.l2.hd (k : Nat) (ts_ : List (AV env)) (mm_ : Mem env) (n_ : Nat) : LCl env :=
  gTs LCl.no [0, 1, 5] 22 ts_ fun l_ => gV LCl.no l_ fun a_ l_ => rImm LCl.no 5 a_ fun xs3 => gV LCl.no l_ fun a_ l_ => rV LCl.no a_ fun v_ => vI LCl.no .i64 v_ fun a4 => gV LCl.no l_ fun a_ l_ => rV LCl.no a_ fun v_ => vI LCl.no .i64 v_ fun a5 => gE LCl.no l_ <| gE LCl.no mm_ <| gN LCl.no 34 n_ { α := (Int × Int) ⊕ (Int), o := f95.l2 k k xs3 a4 a5, w := f95.l2.w }
def f95.step {R : Type} (k : Nat) (ret : Int → Option R) (xs1 : List Int) (a2 : Int) : Option R :=
  (f95.l2 k k xs1 a2 (0 : Int)).bind (Sum.elim (fun t6 => ret t6.2) (fun t7 => ret t7))
def f95 (k : Nat) (xs1 : List Int) (a2 : Int) : Option Int := f95.step k some xs1 a2
def f95.w {R : Type} : Int → (Res env → Option R) → Option R := fun t10 K => K ⟨.v (.c (.s (.int .i64 t10))), [[], []]⟩
theorem f95.wn (x : Int) : ∃ res, ∀ {R : Type} (K : Res env → Option R), f95.w x K = K res := by
  exact ⟨_, fun _ => rfl⟩
def f95.hd (k : Nat) (ps_ : List (P2 env)) : Cl env :=
  gC Cl.no ps_ fun p_ ps_ => qC Cl.no p_ fun c_ => qSl Cl.no 5 c_ fun xs1 => gC Cl.no ps_ fun p_ ps_ => qC Cl.no p_ fun c_ => qS Cl.no c_ fun v_ => vI Cl.no .i64 v_ fun a2 => gE Cl.no ps_ <| { α := Int, o := f95 k xs1 a2, w := f95.w, nat := fun x _ => f95.wn x }
def f95.e (k : Nat) : Entry env := ⟨fun ps => f95.hd k (coer [[.rd 5], [.no]] ps), []⟩
def f95.X (k : Nat) : Ctx env := { C := lookE [], L := lookE [(2, fun S => f95.l2.hd k S.ts S.m S.n)], J := lookE [], keep := lookD [(2, [0, 1, 5])], keepX := lookD [(2, [1, 4])], span := lookN [(2, 288)], eff := fun n => memN n [], prep := lookP [], np := 0 }
theorem f95.l2.nat {R : Type} (k : Nat) (rec_ : (List Int) → Int → Int → Option ((Int × Int) ⊕ (Int))) (g : ((Int × Int) ⊕ (Int)) → Option R) (xs3 : List Int) (a4 : Int) (a5 : Int) : (f95.l2.step k rec_ some xs3 a4 a5).bind g = f95.l2.step k (fun xs3 a4 a5 => (rec_ xs3 a4 a5).bind g) g xs3 a4 a5 := by
  simp only [f95.l2.step, bind_ite, bind_sum, Option.bind_assoc, Option.bind_some, Option.bind_none]
theorem f95.l2.good (k : Nat) (xs3 : List Int) (a4 : Int) (a5 : Int) : GoodL (f95.X k) (nthC 0 (loopsOf (bodyOf Try.f95))) (f95.l2.st xs3 a4 a5) { α := ((Int × Int) ⊕ (Int)), o := f95.l2 k k xs3 a4 a5, w := f95.l2.w } :=
  loop_good (ι := (List Int) × Int × Int) (α := ((Int × Int) ⊕ (Int))) (fun i => f95.l2.st i.1 i.2.1 i.2.2) (fun j i => f95.l2 k j i.1 i.2.1 i.2.2) f95.l2.w (fun rec_ ret i => f95.l2.step k (fun xs3 a4 a5 => rec_ (xs3, a4, a5)) ret i.1 i.2.1 i.2.2)
    (fun _ => rfl) (fun _ _ => rfl) (fun rec_ g i => f95.l2.nat k _ g i.1 i.2.1 i.2.2) (fun {R} i0 i rec_ K => by kernel_rfl) k (xs3, a4, a5)
theorem f95.l2.all (k : Nat) (S : St env) : GoodL (f95.X k) (nthC 0 (loopsOf (bodyOf Try.f95))) S (f95.l2.hd k S.ts S.m S.n) := by
  obtain ⟨ts_, m_, n_⟩ := S
  show GoodL _ _ _ (f95.l2.hd k ts_ m_ n_)
  unfold f95.l2.hd
  refine gTs_ok (p := GoodL _ _ _) goodL_no fun _ h => ?_
  subst h
  refine gV_ok (p := GoodL _ _ _) goodL_no fun _ _ h => ?_
  subst h
  refine rImm_ok (p := GoodL _ _ _) goodL_no fun _ h => ?_
  subst h
  refine gV_ok (p := GoodL _ _ _) goodL_no fun _ _ h => ?_
  subst h
  refine rV_ok (p := GoodL _ _ _) goodL_no fun _ h => ?_
  subst h
  refine vI_ok (p := GoodL _ _ _) goodL_no fun _ h => ?_
  subst h
  refine gV_ok (p := GoodL _ _ _) goodL_no fun _ _ h => ?_
  subst h
  refine rV_ok (p := GoodL _ _ _) goodL_no fun _ h => ?_
  subst h
  refine vI_ok (p := GoodL _ _ _) goodL_no fun _ h => ?_
  subst h
  refine gE_ok (p := GoodL _ _ _) goodL_no fun h => ?_
  subst h
  refine gE_ok (p := GoodL _ _ _) goodL_no fun h => ?_
  subst h
  refine gN_ok (p := GoodL _ _ _) goodL_no fun h => ?_
  subst h
  exact f95.l2.good k _ _ _
theorem f95.nat {R : Type} (k : Nat) (g : Int → Option R) (xs1 : List Int) (a2 : Int) : f95.step k g xs1 a2 = (f95 k xs1 a2).bind g := by
  simp only [f95, f95.step, bind_ite, bind_sum, Option.bind_assoc, Option.bind_some, Option.bind_none]
theorem f95.ev (k : Nat) (xs1 : List Int) (a2 : Int) : evF (f95.X k) (bodyOf Try.f95) Try.f95.ntmps Try.f95.results.toList [.v (.c (.sl 5 xs1)), .v (.c (.s (.int .i64 a2)))] = f95.step k (fun x => f95.w x some) xs1 a2 := by kernel_rfl
theorem f95.hok (k : Nat) : HOK (f95.X k) (bodyOf Try.f95) where
  l := allP_mem (by exact ⟨ls_of (h0 := fun S => f95.l2.hd k S.ts S.m S.n) (by kernel_rfl) (f95.l2.all k), trivial⟩)
  j := allP_mem (by exact trivial)
theorem f95.sound0 (k : Nat) : SoundC env Try.prog 95 (f95.hd k) := by
  intro ps_
  show GoodC _ _ _ ps_ (f95.hd k ps_)
  unfold f95.hd
  refine gC_ok (p := GoodC env Try.prog 95 _) goodC_no fun _ _ h => ?_
  subst h
  refine qC_ok (p := GoodC env Try.prog 95 _) goodC_no fun _ h => ?_
  subst h
  refine qSl_ok (p := GoodC env Try.prog 95 _) goodC_no fun _ h => ?_
  subst h
  refine gC_ok (p := GoodC env Try.prog 95 _) goodC_no fun _ _ h => ?_
  subst h
  refine qC_ok (p := GoodC env Try.prog 95 _) goodC_no fun _ h => ?_
  subst h
  refine qS_ok (p := GoodC env Try.prog 95 _) goodC_no fun _ h => ?_
  subst h
  refine vI_ok (p := GoodC env Try.prog 95 _) goodC_no fun _ h => ?_
  subst h
  refine gE_ok (p := GoodC env Try.prog 95 _) goodC_no fun h => ?_
  subst h
  exact fun_good (fun_sound envOK (cs_sound _ (by exact trivial)) (f95.hok k) Try.func95 rfl) ((f95.ev k _ _).trans (f95.nat k _ _ _))
theorem f95.sound (k : Nat) : SoundC env Try.prog 95 (f95.e k).F := soundC_coer (f95.sound0 k) [[.rd 5], [.no]]
theorem f95.says (k : Nat) (xs1 : List Int) (a2 : Int) (t11 : Int) (h_ : f95 k xs1 a2 = some t11) : SoundAt env Try.prog 95 [.v (.c (.sl 5 xs1)), .v (.c (.s (.int .i64 a2)))] ⟨.v (.c (.s (.int .i64 t11))), [[], []]⟩ :=
  fun_sound envOK (cs_sound _ (by exact trivial)) (f95.hok k) Try.func95 rfl _ _ (((f95.ev k xs1 a2).trans (f95.nat k _ xs1 a2)).trans (by rw [h_]; rfl))
theorem f95.fnok : FnOK Try.prog 95 := fn_ok Try.func95 (by kernel_rfl) rfl
def f63.l2.step {R : Type} (k : Nat) (rec_ : (List S24) → Int → Int → Option R) (ret : ((Int × Int) ⊕ (Int)) → Option R) (xs3 : List S24) (a4 : Int) (a5 : Int) : Option R :=
  if (decide (a5 < (((List.length xs3) : Nat) : Int))) = true then
    if (0 : Int) ≤ a5 then
      if a5 < ((List.length xs3 : Nat) : Int) then
        if (decide ((List.getD xs3 (Int.toNat a5) (⟨(0 : Int), ByteArray.empty, ByteArray.empty, (0 : Int), (0 : Int), (0 : Int), (0 : Int), false, false, []⟩ : S24)).f0 ≠ a4)) = true then
          ret (.inl (a4, (-1 : Int)))
        else
          if (0 : Int) ≤ a5 then
            if a5 < ((List.length xs3 : Nat) : Int) then
              (f122 k (IntKind.i64.wrap (a4 + (1 : Int)))).bind fun t6 => if (decide (ByteArray.toList (List.getD xs3 (Int.toNat a5) (⟨(0 : Int), ByteArray.empty, ByteArray.empty, (0 : Int), (0 : Int), (0 : Int), (0 : Int), false, false, []⟩ : S24)).f1 ≠ ByteArray.toList t6)) = true then
                  ret (.inl ((IntKind.i64.wrap (a4 + (1 : Int))), (-1 : Int)))
                else
                  if (0 : Int) ≤ a5 then
                    if a5 < ((List.length xs3 : Nat) : Int) then
                      (f122 k (IntKind.i64.wrap ((IntKind.i64.wrap (a4 + (1 : Int))) + (1 : Int)))).bind fun t7 => if (decide (ByteArray.toList (List.getD xs3 (Int.toNat a5) (⟨(0 : Int), ByteArray.empty, ByteArray.empty, (0 : Int), (0 : Int), (0 : Int), (0 : Int), false, false, []⟩ : S24)).f2 ≠ ByteArray.toList t7)) = true then
                          ret (.inl ((IntKind.i64.wrap ((IntKind.i64.wrap (a4 + (1 : Int))) + (1 : Int))), (-1 : Int)))
                        else
                          if (0 : Int) ≤ a5 then
                            if a5 < ((List.length xs3 : Nat) : Int) then
                              if (decide ((List.getD xs3 (Int.toNat a5) (⟨(0 : Int), ByteArray.empty, ByteArray.empty, (0 : Int), (0 : Int), (0 : Int), (0 : Int), false, false, []⟩ : S24)).f3 ≠ (IntKind.i64.wrap ((IntKind.i64.wrap ((IntKind.i64.wrap (a4 + (1 : Int))) + (1 : Int))) + (1 : Int))))) = true then
                                ret (.inl ((IntKind.i64.wrap ((IntKind.i64.wrap ((IntKind.i64.wrap (a4 + (1 : Int))) + (1 : Int))) + (1 : Int))), (-1 : Int)))
                              else
                                if (0 : Int) ≤ a5 then
                                  if a5 < ((List.length xs3 : Nat) : Int) then
                                    if (decide ((List.getD xs3 (Int.toNat a5) (⟨(0 : Int), ByteArray.empty, ByteArray.empty, (0 : Int), (0 : Int), (0 : Int), (0 : Int), false, false, []⟩ : S24)).f4 ≠ (IntKind.i64.wrap ((IntKind.i64.wrap ((IntKind.i64.wrap ((IntKind.i64.wrap (a4 + (1 : Int))) + (1 : Int))) + (1 : Int))) + (1 : Int))))) = true then
                                      ret (.inl ((IntKind.i64.wrap ((IntKind.i64.wrap ((IntKind.i64.wrap ((IntKind.i64.wrap (a4 + (1 : Int))) + (1 : Int))) + (1 : Int))) + (1 : Int))), (-1 : Int)))
                                    else
                                      if (0 : Int) ≤ a5 then
                                        if a5 < ((List.length xs3 : Nat) : Int) then
                                          if (decide ((List.getD xs3 (Int.toNat a5) (⟨(0 : Int), ByteArray.empty, ByteArray.empty, (0 : Int), (0 : Int), (0 : Int), (0 : Int), false, false, []⟩ : S24)).f5 ≠ (IntKind.i64.wrap ((IntKind.i64.wrap ((IntKind.i64.wrap ((IntKind.i64.wrap ((IntKind.i64.wrap (a4 + (1 : Int))) + (1 : Int))) + (1 : Int))) + (1 : Int))) + (1 : Int))))) = true then
                                            ret (.inl ((IntKind.i64.wrap ((IntKind.i64.wrap ((IntKind.i64.wrap ((IntKind.i64.wrap ((IntKind.i64.wrap (a4 + (1 : Int))) + (1 : Int))) + (1 : Int))) + (1 : Int))) + (1 : Int))), (-1 : Int)))
                                          else
                                            if (0 : Int) ≤ a5 then
                                              if a5 < ((List.length xs3 : Nat) : Int) then
                                                if (decide ((List.getD xs3 (Int.toNat a5) (⟨(0 : Int), ByteArray.empty, ByteArray.empty, (0 : Int), (0 : Int), (0 : Int), (0 : Int), false, false, []⟩ : S24)).f6 ≠ (IntKind.i64.wrap ((IntKind.i64.wrap ((IntKind.i64.wrap ((IntKind.i64.wrap ((IntKind.i64.wrap ((IntKind.i64.wrap (a4 + (1 : Int))) + (1 : Int))) + (1 : Int))) + (1 : Int))) + (1 : Int))) + (1 : Int))))) = true then
                                                  ret (.inl ((IntKind.i64.wrap ((IntKind.i64.wrap ((IntKind.i64.wrap ((IntKind.i64.wrap ((IntKind.i64.wrap ((IntKind.i64.wrap (a4 + (1 : Int))) + (1 : Int))) + (1 : Int))) + (1 : Int))) + (1 : Int))) + (1 : Int))), (-1 : Int)))
                                                else
                                                  if (0 : Int) ≤ a5 then
                                                    if a5 < ((List.length xs3 : Nat) : Int) then
                                                      if (!((List.getD xs3 (Int.toNat a5) (⟨(0 : Int), ByteArray.empty, ByteArray.empty, (0 : Int), (0 : Int), (0 : Int), (0 : Int), false, false, []⟩ : S24)).f7 == (decide ((Int.tmod (IntKind.i64.wrap ((IntKind.i64.wrap ((IntKind.i64.wrap ((IntKind.i64.wrap ((IntKind.i64.wrap ((IntKind.i64.wrap ((IntKind.i64.wrap (a4 + (1 : Int))) + (1 : Int))) + (1 : Int))) + (1 : Int))) + (1 : Int))) + (1 : Int))) + (1 : Int))) (3 : Int)) = (0 : Int))))) = true then
                                                        ret (.inl ((IntKind.i64.wrap ((IntKind.i64.wrap ((IntKind.i64.wrap ((IntKind.i64.wrap ((IntKind.i64.wrap ((IntKind.i64.wrap ((IntKind.i64.wrap (a4 + (1 : Int))) + (1 : Int))) + (1 : Int))) + (1 : Int))) + (1 : Int))) + (1 : Int))) + (1 : Int))), (-1 : Int)))
                                                      else
                                                        if (0 : Int) ≤ a5 then
                                                          if a5 < ((List.length xs3 : Nat) : Int) then
                                                            if (!((List.getD xs3 (Int.toNat a5) (⟨(0 : Int), ByteArray.empty, ByteArray.empty, (0 : Int), (0 : Int), (0 : Int), (0 : Int), false, false, []⟩ : S24)).f8 == (decide ((Int.tmod (IntKind.i64.wrap ((IntKind.i64.wrap ((IntKind.i64.wrap ((IntKind.i64.wrap ((IntKind.i64.wrap ((IntKind.i64.wrap ((IntKind.i64.wrap ((IntKind.i64.wrap (a4 + (1 : Int))) + (1 : Int))) + (1 : Int))) + (1 : Int))) + (1 : Int))) + (1 : Int))) + (1 : Int))) + (1 : Int))) (3 : Int)) = (0 : Int))))) = true then
                                                              ret (.inl ((IntKind.i64.wrap ((IntKind.i64.wrap ((IntKind.i64.wrap ((IntKind.i64.wrap ((IntKind.i64.wrap ((IntKind.i64.wrap ((IntKind.i64.wrap ((IntKind.i64.wrap (a4 + (1 : Int))) + (1 : Int))) + (1 : Int))) + (1 : Int))) + (1 : Int))) + (1 : Int))) + (1 : Int))) + (1 : Int))), (-1 : Int)))
                                                            else
                                                              if (0 : Int) ≤ a5 then
                                                                if a5 < ((List.length xs3 : Nat) : Int) then
                                                                  (f95 k (List.getD xs3 (Int.toNat a5) (⟨(0 : Int), ByteArray.empty, ByteArray.empty, (0 : Int), (0 : Int), (0 : Int), (0 : Int), false, false, []⟩ : S24)).f9 (IntKind.i64.wrap ((IntKind.i64.wrap ((IntKind.i64.wrap ((IntKind.i64.wrap ((IntKind.i64.wrap ((IntKind.i64.wrap ((IntKind.i64.wrap ((IntKind.i64.wrap ((IntKind.i64.wrap (a4 + (1 : Int))) + (1 : Int))) + (1 : Int))) + (1 : Int))) + (1 : Int))) + (1 : Int))) + (1 : Int))) + (1 : Int))) + (1 : Int)))).bind fun t8 => if (decide (t8 < (0 : Int))) = true then
                                                                      ret (.inl (t8, (-1 : Int)))
                                                                    else
                                                                      rec_ xs3 t8 (IntKind.i64.wrap (a5 + (1 : Int)))
                                                                else none
                                                              else none
                                                          else none
                                                        else none
                                                    else none
                                                  else none
                                              else none
                                            else none
                                        else none
                                      else none
                                  else none
                                else none
                            else none
                          else none
                    else none
                  else none
            else none
          else none
      else none
    else none
  else
    ret (.inr a4)
def f63.l2 (k : Nat) : Nat → (List S24) → Int → Int → Option ((Int × Int) ⊕ (Int))
  | 0, _, _, _ => none
  | j + 1, xs3, a4, a5 => f63.l2.step k (fun xs3 a4 a5 => f63.l2 k j xs3 a4 a5) some xs3 a4 a5
def f63.l2.w {R : Type} : ((Int × Int) ⊕ (Int)) → (Exit → St env → Option R) → Option R := fun x K => Sum.elim (fun t11 => K .ret ⟨fullT [1, 4] 0 109 [.v (.c (.s (.int .i64 t11.1))), .v (.c (.s (.int .i64 t11.2)))], [], 2002⟩) (fun t12 => K (.exit 0) ⟨fullT [1] 0 109 [.v (.c (.s (.int .i64 t12)))], [], 2002⟩) x
def f63.l2.st (xs3 : List S24) (a4 : Int) (a5 : Int) : St env := ⟨fullT [0, 1, 5] 0 109 [.v (.c (.imm 24 xs3)), .v (.c (.s (.int .i64 a4))), .v (.c (.s (.int .i64 a5)))], [], 34⟩
def f63.l2.hd (k : Nat) (ts_ : List (AV env)) (mm_ : Mem env) (n_ : Nat) : LCl env :=
  gTs LCl.no [0, 1, 5] 109 ts_ fun l_ => gV LCl.no l_ fun a_ l_ => rImm LCl.no 24 a_ fun xs3 => gV LCl.no l_ fun a_ l_ => rV LCl.no a_ fun v_ => vI LCl.no .i64 v_ fun a4 => gV LCl.no l_ fun a_ l_ => rV LCl.no a_ fun v_ => vI LCl.no .i64 v_ fun a5 => gE LCl.no l_ <| gE LCl.no mm_ <| gN LCl.no 34 n_ { α := (Int × Int) ⊕ (Int), o := f63.l2 k k xs3 a4 a5, w := f63.l2.w }
def f63.step {R : Type} (k : Nat) (ret : Int → Option R) (xs1 : List S24) (a2 : Int) : Option R :=
  (f63.l2 k k xs1 a2 (0 : Int)).bind (Sum.elim (fun t9 => ret t9.2) (fun t10 => ret t10))
def f63 (k : Nat) (xs1 : List S24) (a2 : Int) : Option Int := f63.step k some xs1 a2
def f63.w {R : Type} : Int → (Res env → Option R) → Option R := fun t13 K => K ⟨.v (.c (.s (.int .i64 t13))), [[], []]⟩
theorem f63.wn (x : Int) : ∃ res, ∀ {R : Type} (K : Res env → Option R), f63.w x K = K res := by
  exact ⟨_, fun _ => rfl⟩
def f63.hd (k : Nat) (ps_ : List (P2 env)) : Cl env :=
  gC Cl.no ps_ fun p_ ps_ => qC Cl.no p_ fun c_ => qSl Cl.no 24 c_ fun xs1 => gC Cl.no ps_ fun p_ ps_ => qC Cl.no p_ fun c_ => qS Cl.no c_ fun v_ => vI Cl.no .i64 v_ fun a2 => gE Cl.no ps_ <| { α := Int, o := f63 k xs1 a2, w := f63.w, nat := fun x _ => f63.wn x }
def f63.e (k : Nat) : Entry env := ⟨fun ps => f63.hd k (coer [[.rd 24], [.no]] ps), []⟩
def f63.X (k : Nat) : Ctx env := { C := lookE [(95, f95.e k), (122, f122.e k)], L := lookE [(2, fun S => f63.l2.hd k S.ts S.m S.n)], J := lookE [], keep := lookD [(2, [0, 1, 5])], keepX := lookD [(2, [1, 4])], span := lookN [(2, 1968)], eff := fun n => memN n [], prep := lookP [], np := 0 }
theorem f63.l2.nat {R : Type} (k : Nat) (rec_ : (List S24) → Int → Int → Option ((Int × Int) ⊕ (Int))) (g : ((Int × Int) ⊕ (Int)) → Option R) (xs3 : List S24) (a4 : Int) (a5 : Int) : (f63.l2.step k rec_ some xs3 a4 a5).bind g = f63.l2.step k (fun xs3 a4 a5 => (rec_ xs3 a4 a5).bind g) g xs3 a4 a5 := by
  simp only [f63.l2.step, bind_ite, bind_sum, Option.bind_assoc, Option.bind_some, Option.bind_none]
theorem f63.l2.good (k : Nat) (xs3 : List S24) (a4 : Int) (a5 : Int) : GoodL (f63.X k) (nthC 0 (loopsOf (bodyOf Try.f63))) (f63.l2.st xs3 a4 a5) { α := ((Int × Int) ⊕ (Int)), o := f63.l2 k k xs3 a4 a5, w := f63.l2.w } :=
  loop_good (ι := (List S24) × Int × Int) (α := ((Int × Int) ⊕ (Int))) (fun i => f63.l2.st i.1 i.2.1 i.2.2) (fun j i => f63.l2 k j i.1 i.2.1 i.2.2) f63.l2.w (fun rec_ ret i => f63.l2.step k (fun xs3 a4 a5 => rec_ (xs3, a4, a5)) ret i.1 i.2.1 i.2.2)
    (fun _ => rfl) (fun _ _ => rfl) (fun rec_ g i => f63.l2.nat k _ g i.1 i.2.1 i.2.2) (fun {R} i0 i rec_ K => by kernel_rfl) k (xs3, a4, a5)
theorem f63.l2.all (k : Nat) (S : St env) : GoodL (f63.X k) (nthC 0 (loopsOf (bodyOf Try.f63))) S (f63.l2.hd k S.ts S.m S.n) := by
  obtain ⟨ts_, m_, n_⟩ := S
  show GoodL _ _ _ (f63.l2.hd k ts_ m_ n_)
  unfold f63.l2.hd
  refine gTs_ok (p := GoodL _ _ _) goodL_no fun _ h => ?_
  subst h
  refine gV_ok (p := GoodL _ _ _) goodL_no fun _ _ h => ?_
  subst h
  refine rImm_ok (p := GoodL _ _ _) goodL_no fun _ h => ?_
  subst h
  refine gV_ok (p := GoodL _ _ _) goodL_no fun _ _ h => ?_
  subst h
  refine rV_ok (p := GoodL _ _ _) goodL_no fun _ h => ?_
  subst h
  refine vI_ok (p := GoodL _ _ _) goodL_no fun _ h => ?_
  subst h
  refine gV_ok (p := GoodL _ _ _) goodL_no fun _ _ h => ?_
  subst h
  refine rV_ok (p := GoodL _ _ _) goodL_no fun _ h => ?_
  subst h
  refine vI_ok (p := GoodL _ _ _) goodL_no fun _ h => ?_
  subst h
  refine gE_ok (p := GoodL _ _ _) goodL_no fun h => ?_
  subst h
  refine gE_ok (p := GoodL _ _ _) goodL_no fun h => ?_
  subst h
  refine gN_ok (p := GoodL _ _ _) goodL_no fun h => ?_
  subst h
  exact f63.l2.good k _ _ _
theorem f63.nat {R : Type} (k : Nat) (g : Int → Option R) (xs1 : List S24) (a2 : Int) : f63.step k g xs1 a2 = (f63 k xs1 a2).bind g := by
  simp only [f63, f63.step, bind_ite, bind_sum, Option.bind_assoc, Option.bind_some, Option.bind_none]
theorem f63.ev (k : Nat) (xs1 : List S24) (a2 : Int) : evF (f63.X k) (bodyOf Try.f63) Try.f63.ntmps Try.f63.results.toList [.v (.c (.sl 24 xs1)), .v (.c (.s (.int .i64 a2)))] = f63.step k (fun x => f63.w x some) xs1 a2 := by kernel_rfl
theorem f63.hok (k : Nat) : HOK (f63.X k) (bodyOf Try.f63) where
  l := allP_mem (by exact ⟨ls_of (h0 := fun S => f63.l2.hd k S.ts S.m S.n) (by kernel_rfl) (f63.l2.all k), trivial⟩)
  j := allP_mem (by exact trivial)
theorem f63.sound0 (k : Nat) : SoundC env Try.prog 63 (f63.hd k) := by
  intro ps_
  show GoodC _ _ _ ps_ (f63.hd k ps_)
  unfold f63.hd
  refine gC_ok (p := GoodC env Try.prog 63 _) goodC_no fun _ _ h => ?_
  subst h
  refine qC_ok (p := GoodC env Try.prog 63 _) goodC_no fun _ h => ?_
  subst h
  refine qSl_ok (p := GoodC env Try.prog 63 _) goodC_no fun _ h => ?_
  subst h
  refine gC_ok (p := GoodC env Try.prog 63 _) goodC_no fun _ _ h => ?_
  subst h
  refine qC_ok (p := GoodC env Try.prog 63 _) goodC_no fun _ h => ?_
  subst h
  refine qS_ok (p := GoodC env Try.prog 63 _) goodC_no fun _ h => ?_
  subst h
  refine vI_ok (p := GoodC env Try.prog 63 _) goodC_no fun _ h => ?_
  subst h
  refine gE_ok (p := GoodC env Try.prog 63 _) goodC_no fun h => ?_
  subst h
  exact fun_good (fun_sound envOK (cs_sound _ (by exact ⟨⟨f95.sound k, f95.fnok⟩, ⟨f122.sound k, f122.fnok⟩, trivial⟩)) (f63.hok k) Try.func63 rfl) ((f63.ev k _ _).trans (f63.nat k _ _ _))
theorem f63.sound (k : Nat) : SoundC env Try.prog 63 (f63.e k).F := soundC_coer (f63.sound0 k) [[.rd 24], [.no]]
theorem f63.says (k : Nat) (xs1 : List S24) (a2 : Int) (t14 : Int) (h_ : f63 k xs1 a2 = some t14) : SoundAt env Try.prog 63 [.v (.c (.sl 24 xs1)), .v (.c (.s (.int .i64 a2)))] ⟨.v (.c (.s (.int .i64 t14))), [[], []]⟩ :=
  fun_sound envOK (cs_sound _ (by exact ⟨⟨f95.sound k, f95.fnok⟩, ⟨f122.sound k, f122.fnok⟩, trivial⟩)) (f63.hok k) Try.func63 rfl _ _ (((f63.ev k xs1 a2).trans (f63.nat k _ xs1 a2)).trans (by rw [h_]; rfl))
theorem f63.fnok : FnOK Try.prog 63 := fn_ok Try.func63 (by kernel_rfl) rfl
def f10.step {R : Type} (k : Nat) (ret : Bool → Option R) (a1 : Int) (s2 : ByteArray) (s3 : ByteArray) (a4 : Int) (a5 : Int) (a6 : Int) (a7 : Int) (b8 : Bool) (b9 : Bool) (xs10 : List Int) (a11 : Int) : Option R :=
  (f59 k a1 s2 s3 a4 a5 a6 a7 b8 b9 xs10 (1048576 : Int)).bind fun t12 => if (decide (t12 < (0 : Int))) = true then
      ret true
    else
      (f60 k a1 s2 s3 a4 a5 a6 a7 b8 b9 xs10).bind fun t13 => (f18 k t13.1 t13.2.1 t13.2.2.1 t13.2.2.2.1 t13.2.2.2.2.1 t13.2.2.2.2.2.1 t13.2.2.2.2.2.2.1 t13.2.2.2.2.2.2.2.1 t13.2.2.2.2.2.2.2.2.1 t13.2.2.2.2.2.2.2.2.2 a11).bind fun t14 => (f60 k a1 s2 s3 a4 a5 a6 a7 b8 b9 xs10).bind fun t15 => (f17 k t15.1 t15.2.1 t15.2.2.1 t15.2.2.2.1 t15.2.2.2.2.1 t15.2.2.2.2.2.1 t15.2.2.2.2.2.2.1 t15.2.2.2.2.2.2.2.1 t15.2.2.2.2.2.2.2.2.1 t15.2.2.2.2.2.2.2.2.2 a11).bind (Sum.elim (fun t16 => (f61 k ([] : List S24) t14.1).bind fun t17 => if (!t17) = false then
                  if (decide (t16 ≠ t14.2)) = true then
                    ret false
                  else
                    (f60 k a1 s2 s3 a4 a5 a6 a7 b8 b9 xs10).bind fun t18 => (f32 k t15.1 t15.2.1 t15.2.2.1 t15.2.2.2.1 t15.2.2.2.2.1 t15.2.2.2.2.2.1 t15.2.2.2.2.2.2.1 t15.2.2.2.2.2.2.2.1 t15.2.2.2.2.2.2.2.2.1 t15.2.2.2.2.2.2.2.2.2 t18.1 t18.2.1 t18.2.2.1 t18.2.2.2.1 t18.2.2.2.2.1 t18.2.2.2.2.2.1 t18.2.2.2.2.2.2.1 t18.2.2.2.2.2.2.2.1 t18.2.2.2.2.2.2.2.2.1 t18.2.2.2.2.2.2.2.2.2).bind fun t19 => if (!t19) = true then
                          ret false
                        else
                          (f35 k t15.1 t15.2.1 t15.2.2.1 t15.2.2.2.1 t15.2.2.2.2.1 t15.2.2.2.2.2.1 t15.2.2.2.2.2.2.1 t15.2.2.2.2.2.2.2.1 t15.2.2.2.2.2.2.2.2.1 t15.2.2.2.2.2.2.2.2.2 (1 : Int)).bind fun t20 => if (decide (t20.1 < (0 : Int))) = false then
                              (f61 k ([] : List S24) t14.1).bind fun t21 => if (!t21) = false then
                                  if (decide (t16 ≠ t14.2)) = true then
                                    ret false
                                  else
                                    (f62 k ([] : List S24) (1 : Int)).bind fun t22 => (f63 k ([] : List S24) (1 : Int)).bind fun t23 => if (decide (t23 < (0 : Int))) = true then
                                          ret false
                                        else
                                          if (decide (t23 ≠ t22.1)) = true then
                                            ret false
                                          else
                                            (f60 k a1 s2 s3 a4 a5 a6 a7 b8 b9 xs10).bind fun t24 => (f17 k t24.1 t24.2.1 t24.2.2.1 t24.2.2.2.1 t24.2.2.2.2.1 t24.2.2.2.2.2.1 t24.2.2.2.2.2.2.1 t24.2.2.2.2.2.2.2.1 t24.2.2.2.2.2.2.2.2.1 t24.2.2.2.2.2.2.2.2.2 a11).bind (Sum.elim (fun t25 => (f61 k ([] : List S24) t14.1).bind fun t26 => if (!t26) = false then
                                                    if (decide (t25 ≠ t14.2)) = true then
                                                      ret false
                                                    else
                                                      (f63 k ([] : List S24) (1 : Int)).bind fun t27 => if (decide (t27 < (0 : Int))) = true then
                                                          ret false
                                                        else
                                                          if (decide (t27 ≠ t22.1)) = true then
                                                            ret false
                                                          else
                                                            ret true
                                                  else
                                                    ret false) (fun t28 => (f61 k t28.1 t14.1).bind fun t29 => if (!t29) = false then
                                                    if (decide (t28.2 ≠ t14.2)) = true then
                                                      ret false
                                                    else
                                                      (f63 k ([] : List S24) (1 : Int)).bind fun t30 => if (decide (t30 < (0 : Int))) = true then
                                                          ret false
                                                        else
                                                          if (decide (t30 ≠ t22.1)) = true then
                                                            ret false
                                                          else
                                                            ret true
                                                  else
                                                    ret false))
                                else
                                  ret false
                            else
                              ret false
                else
                  ret false) (fun t31 => (f61 k t31.1 t14.1).bind fun t32 => if (!t32) = false then
                  if (decide (t31.2 ≠ t14.2)) = true then
                    ret false
                  else
                    (f60 k a1 s2 s3 a4 a5 a6 a7 b8 b9 xs10).bind fun t33 => (f32 k t15.1 t15.2.1 t15.2.2.1 t15.2.2.2.1 t15.2.2.2.2.1 t15.2.2.2.2.2.1 t15.2.2.2.2.2.2.1 t15.2.2.2.2.2.2.2.1 t15.2.2.2.2.2.2.2.2.1 t15.2.2.2.2.2.2.2.2.2 t33.1 t33.2.1 t33.2.2.1 t33.2.2.2.1 t33.2.2.2.2.1 t33.2.2.2.2.2.1 t33.2.2.2.2.2.2.1 t33.2.2.2.2.2.2.2.1 t33.2.2.2.2.2.2.2.2.1 t33.2.2.2.2.2.2.2.2.2).bind fun t34 => if (!t34) = true then
                          ret false
                        else
                          (f35 k t15.1 t15.2.1 t15.2.2.1 t15.2.2.2.1 t15.2.2.2.2.1 t15.2.2.2.2.2.1 t15.2.2.2.2.2.2.1 t15.2.2.2.2.2.2.2.1 t15.2.2.2.2.2.2.2.2.1 t15.2.2.2.2.2.2.2.2.2 (1 : Int)).bind fun t35 => if (decide (t35.1 < (0 : Int))) = false then
                              (f61 k t31.1 t14.1).bind fun t36 => if (!t36) = false then
                                  if (decide (t31.2 ≠ t14.2)) = true then
                                    ret false
                                  else
                                    (f62 k t31.1 (1 : Int)).bind fun t37 => (f63 k t37.2 (1 : Int)).bind fun t38 => if (decide (t38 < (0 : Int))) = true then
                                          ret false
                                        else
                                          if (decide (t38 ≠ t37.1)) = true then
                                            ret false
                                          else
                                            (f60 k a1 s2 s3 a4 a5 a6 a7 b8 b9 xs10).bind fun t39 => (f17 k t39.1 t39.2.1 t39.2.2.1 t39.2.2.2.1 t39.2.2.2.2.1 t39.2.2.2.2.2.1 t39.2.2.2.2.2.2.1 t39.2.2.2.2.2.2.2.1 t39.2.2.2.2.2.2.2.2.1 t39.2.2.2.2.2.2.2.2.2 a11).bind (Sum.elim (fun t40 => (f61 k ([] : List S24) t14.1).bind fun t41 => if (!t41) = false then
                                                    if (decide (t40 ≠ t14.2)) = true then
                                                      ret false
                                                    else
                                                      (f63 k t37.2 (1 : Int)).bind fun t42 => if (decide (t42 < (0 : Int))) = true then
                                                          ret false
                                                        else
                                                          if (decide (t42 ≠ t37.1)) = true then
                                                            ret false
                                                          else
                                                            ret true
                                                  else
                                                    ret false) (fun t43 => (f61 k t43.1 t14.1).bind fun t44 => if (!t44) = false then
                                                    if (decide (t43.2 ≠ t14.2)) = true then
                                                      ret false
                                                    else
                                                      (f63 k t37.2 (1 : Int)).bind fun t45 => if (decide (t45 < (0 : Int))) = true then
                                                          ret false
                                                        else
                                                          if (decide (t45 ≠ t37.1)) = true then
                                                            ret false
                                                          else
                                                            ret true
                                                  else
                                                    ret false))
                                else
                                  ret false
                            else
                              ret false
                else
                  ret false))
def f10 (k : Nat) (a1 : Int) (s2 : ByteArray) (s3 : ByteArray) (a4 : Int) (a5 : Int) (a6 : Int) (a7 : Int) (b8 : Bool) (b9 : Bool) (xs10 : List Int) (a11 : Int) : Option Bool := f10.step k some a1 s2 s3 a4 a5 a6 a7 b8 b9 xs10 a11
def f10.w {R : Type} : Bool → (Res env → Option R) → Option R := fun t46 K => K ⟨.v (.c (.s (.bool t46))), [[], []]⟩
theorem f10.wn (x : Bool) : ∃ res, ∀ {R : Type} (K : Res env → Option R), f10.w x K = K res := by
  exact ⟨_, fun _ => rfl⟩
def f10.hd (k : Nat) (ps_ : List (P2 env)) : Cl env :=
  gC Cl.no ps_ fun p_ ps_ => qG Cl.no p_ fun cs_ => gC Cl.no cs_ fun c_ cs_ => qS Cl.no c_ fun v_ => vI Cl.no .i64 v_ fun a1 => gC Cl.no cs_ fun c_ cs_ => qS Cl.no c_ fun v_ => vS Cl.no v_ fun s2 => gC Cl.no cs_ fun c_ cs_ => qS Cl.no c_ fun v_ => vS Cl.no v_ fun s3 => gC Cl.no cs_ fun c_ cs_ => qS Cl.no c_ fun v_ => vI Cl.no .i64 v_ fun a4 => gC Cl.no cs_ fun c_ cs_ => qS Cl.no c_ fun v_ => vI Cl.no .i64 v_ fun a5 => gC Cl.no cs_ fun c_ cs_ => qS Cl.no c_ fun v_ => vI Cl.no .i64 v_ fun a6 => gC Cl.no cs_ fun c_ cs_ => qS Cl.no c_ fun v_ => vI Cl.no .i64 v_ fun a7 => gC Cl.no cs_ fun c_ cs_ => qS Cl.no c_ fun v_ => vB Cl.no v_ fun b8 => gC Cl.no cs_ fun c_ cs_ => qS Cl.no c_ fun v_ => vB Cl.no v_ fun b9 => gC Cl.no cs_ fun c_ cs_ => qSl Cl.no 5 c_ fun xs10 => gE Cl.no cs_ <| gC Cl.no ps_ fun p_ ps_ => qC Cl.no p_ fun c_ => qS Cl.no c_ fun v_ => vI Cl.no .i64 v_ fun a11 => gE Cl.no ps_ <| { α := Bool, o := f10 k a1 s2 s3 a4 a5 a6 a7 b8 b9 xs10 a11, w := f10.w, nat := fun x _ => f10.wn x }
def f10.e (k : Nat) : Entry env := ⟨fun ps => f10.hd k (coer [[.no, .no, .no, .no, .no, .no, .no, .no, .no, .rd 5], [.no]] ps), []⟩
def f10.X (k : Nat) : Ctx env := { C := lookE [(17, f17.e k), (18, f18.e k), (32, f32.e k), (35, f35.e k), (59, f59.e k), (60, f60.e k), (61, f61.e k), (62, f62.e k), (63, f63.e k)], L := lookE [], J := lookE [], keep := lookD [], keepX := lookD [], span := lookN [], eff := fun n => memN n [10], prep := lookP [], np := 0 }
theorem f10.nat {R : Type} (k : Nat) (g : Bool → Option R) (a1 : Int) (s2 : ByteArray) (s3 : ByteArray) (a4 : Int) (a5 : Int) (a6 : Int) (a7 : Int) (b8 : Bool) (b9 : Bool) (xs10 : List Int) (a11 : Int) : f10.step k g a1 s2 s3 a4 a5 a6 a7 b8 b9 xs10 a11 = (f10 k a1 s2 s3 a4 a5 a6 a7 b8 b9 xs10 a11).bind g := by
  simp only [f10, f10.step, bind_ite, bind_sum, Option.bind_assoc, Option.bind_some, Option.bind_none]
theorem f10.ev (k : Nat) (a1 : Int) (s2 : ByteArray) (s3 : ByteArray) (a4 : Int) (a5 : Int) (a6 : Int) (a7 : Int) (b8 : Bool) (b9 : Bool) (xs10 : List Int) (a11 : Int) : evF (f10.X k) (bodyOf Try.f10) Try.f10.ntmps Try.f10.results.toList [.g [.s (.int .i64 a1), .s (.string s2), .s (.string s3), .s (.int .i64 a4), .s (.int .i64 a5), .s (.int .i64 a6), .s (.int .i64 a7), .s (.bool b8), .s (.bool b9), .sl 5 xs10], .v (.c (.s (.int .i64 a11)))] = f10.step k (fun x => f10.w x some) a1 s2 s3 a4 a5 a6 a7 b8 b9 xs10 a11 := by kernel_rfl
theorem f10.hok (k : Nat) : HOK (f10.X k) (bodyOf Try.f10) where
  l := allP_mem (by exact trivial)
  j := allP_mem (by exact trivial)
theorem f10.sound0 (k : Nat) : SoundC env Try.prog 10 (f10.hd k) := by
  intro ps_
  show GoodC _ _ _ ps_ (f10.hd k ps_)
  unfold f10.hd
  refine gC_ok (p := GoodC env Try.prog 10 _) goodC_no fun _ _ h => ?_
  subst h
  refine qG_ok (p := GoodC env Try.prog 10 _) goodC_no fun _ h => ?_
  subst h
  refine gC_ok (p := GoodC env Try.prog 10 _) goodC_no fun _ _ h => ?_
  subst h
  refine qS_ok (p := GoodC env Try.prog 10 _) goodC_no fun _ h => ?_
  subst h
  refine vI_ok (p := GoodC env Try.prog 10 _) goodC_no fun _ h => ?_
  subst h
  refine gC_ok (p := GoodC env Try.prog 10 _) goodC_no fun _ _ h => ?_
  subst h
  refine qS_ok (p := GoodC env Try.prog 10 _) goodC_no fun _ h => ?_
  subst h
  refine vS_ok (p := GoodC env Try.prog 10 _) goodC_no fun _ h => ?_
  subst h
  refine gC_ok (p := GoodC env Try.prog 10 _) goodC_no fun _ _ h => ?_
  subst h
  refine qS_ok (p := GoodC env Try.prog 10 _) goodC_no fun _ h => ?_
  subst h
  refine vS_ok (p := GoodC env Try.prog 10 _) goodC_no fun _ h => ?_
  subst h
  refine gC_ok (p := GoodC env Try.prog 10 _) goodC_no fun _ _ h => ?_
  subst h
  refine qS_ok (p := GoodC env Try.prog 10 _) goodC_no fun _ h => ?_
  subst h
  refine vI_ok (p := GoodC env Try.prog 10 _) goodC_no fun _ h => ?_
  subst h
  refine gC_ok (p := GoodC env Try.prog 10 _) goodC_no fun _ _ h => ?_
  subst h
  refine qS_ok (p := GoodC env Try.prog 10 _) goodC_no fun _ h => ?_
  subst h
  refine vI_ok (p := GoodC env Try.prog 10 _) goodC_no fun _ h => ?_
  subst h
  refine gC_ok (p := GoodC env Try.prog 10 _) goodC_no fun _ _ h => ?_
  subst h
  refine qS_ok (p := GoodC env Try.prog 10 _) goodC_no fun _ h => ?_
  subst h
  refine vI_ok (p := GoodC env Try.prog 10 _) goodC_no fun _ h => ?_
  subst h
  refine gC_ok (p := GoodC env Try.prog 10 _) goodC_no fun _ _ h => ?_
  subst h
  refine qS_ok (p := GoodC env Try.prog 10 _) goodC_no fun _ h => ?_
  subst h
  refine vI_ok (p := GoodC env Try.prog 10 _) goodC_no fun _ h => ?_
  subst h
  refine gC_ok (p := GoodC env Try.prog 10 _) goodC_no fun _ _ h => ?_
  subst h
  refine qS_ok (p := GoodC env Try.prog 10 _) goodC_no fun _ h => ?_
  subst h
  refine vB_ok (p := GoodC env Try.prog 10 _) goodC_no fun _ h => ?_
  subst h
  refine gC_ok (p := GoodC env Try.prog 10 _) goodC_no fun _ _ h => ?_
  subst h
  refine qS_ok (p := GoodC env Try.prog 10 _) goodC_no fun _ h => ?_
  subst h
  refine vB_ok (p := GoodC env Try.prog 10 _) goodC_no fun _ h => ?_
  subst h
  refine gC_ok (p := GoodC env Try.prog 10 _) goodC_no fun _ _ h => ?_
  subst h
  refine qSl_ok (p := GoodC env Try.prog 10 _) goodC_no fun _ h => ?_
  subst h
  refine gE_ok (p := GoodC env Try.prog 10 _) goodC_no fun h => ?_
  subst h
  refine gC_ok (p := GoodC env Try.prog 10 _) goodC_no fun _ _ h => ?_
  subst h
  refine qC_ok (p := GoodC env Try.prog 10 _) goodC_no fun _ h => ?_
  subst h
  refine qS_ok (p := GoodC env Try.prog 10 _) goodC_no fun _ h => ?_
  subst h
  refine vI_ok (p := GoodC env Try.prog 10 _) goodC_no fun _ h => ?_
  subst h
  refine gE_ok (p := GoodC env Try.prog 10 _) goodC_no fun h => ?_
  subst h
  exact fun_good (fun_sound envOK (cs_sound _ (by exact ⟨⟨f17.sound k, f17.fnok⟩, ⟨f18.sound k, f18.fnok⟩, ⟨f32.sound k, f32.fnok⟩, ⟨f35.sound k, f35.fnok⟩, ⟨f59.sound k, f59.fnok⟩, ⟨f60.sound k, f60.fnok⟩, ⟨f61.sound k, f61.fnok⟩, ⟨f62.sound k, f62.fnok⟩, ⟨f63.sound k, f63.fnok⟩, trivial⟩)) (f10.hok k) Try.func10 rfl) ((f10.ev k _ _ _ _ _ _ _ _ _ _ _).trans (f10.nat k _ _ _ _ _ _ _ _ _ _ _ _))
theorem f10.sound (k : Nat) : SoundC env Try.prog 10 (f10.e k).F := soundC_coer (f10.sound0 k) [[.no, .no, .no, .no, .no, .no, .no, .no, .no, .rd 5], [.no]]
theorem f10.says (k : Nat) (a1 : Int) (s2 : ByteArray) (s3 : ByteArray) (a4 : Int) (a5 : Int) (a6 : Int) (a7 : Int) (b8 : Bool) (b9 : Bool) (xs10 : List Int) (a11 : Int) (t47 : Bool) (h_ : f10 k a1 s2 s3 a4 a5 a6 a7 b8 b9 xs10 a11 = some t47) : SoundAt env Try.prog 10 [.g [.s (.int .i64 a1), .s (.string s2), .s (.string s3), .s (.int .i64 a4), .s (.int .i64 a5), .s (.int .i64 a6), .s (.int .i64 a7), .s (.bool b8), .s (.bool b9), .sl 5 xs10], .v (.c (.s (.int .i64 a11)))] ⟨.v (.c (.s (.bool t47))), [[], []]⟩ :=
  fun_sound envOK (cs_sound _ (by exact ⟨⟨f17.sound k, f17.fnok⟩, ⟨f18.sound k, f18.fnok⟩, ⟨f32.sound k, f32.fnok⟩, ⟨f35.sound k, f35.fnok⟩, ⟨f59.sound k, f59.fnok⟩, ⟨f60.sound k, f60.fnok⟩, ⟨f61.sound k, f61.fnok⟩, ⟨f62.sound k, f62.fnok⟩, ⟨f63.sound k, f63.fnok⟩, trivial⟩)) (f10.hok k) Try.func10 rfl _ _ (((f10.ev k a1 s2 s3 a4 a5 a6 a7 b8 b9 xs10 a11).trans (f10.nat k _ a1 s2 s3 a4 a5 a6 a7 b8 b9 xs10 a11)).trans (by rw [h_]; rfl))
theorem f10.fnok : FnOK Try.prog 10 := fn_ok Try.func10 (by kernel_rfl) rfl
end Go.Proofs.Ytildepkogbcdpaa.B
