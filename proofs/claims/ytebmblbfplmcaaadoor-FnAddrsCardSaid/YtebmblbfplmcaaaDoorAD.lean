/- Written by a program of this session. -/
import Derived.Test.YtebmblbfplmcaaaDoorADa
namespace Go.Proofs.YtebmblbfplmcaaaDoor.B
open Go Go.B
set_option linter.unusedVariables false
set_option linter.unusedSimpArgs false
def f6.step {R : Type} (k : Nat) (ret : (ByteArray × Int) → Option R) (s1 : ByteArray) : Option R :=
  if (decide ((((ByteArray.size s1) : Nat) : Int) > (65536 : Int))) = true then
    ret ((⟨#[]⟩ : ByteArray), (2 : Int))
  else
    if (decide ((((ByteArray.size s1) : Nat) : Int) > (60 : Int))) = true then
      ret ((⟨#[]⟩ : ByteArray), (3 : Int))
    else
      (f14 k s1).bind fun t2 => if (!t2.2) = true then
          ret ((⟨#[]⟩ : ByteArray), (3 : Int))
        else
          ret (t2.1, (0 : Int))
def f6 (k : Nat) (s1 : ByteArray) : Option (ByteArray × Int) := f6.step k some s1
def f6.w {R : Type} : (ByteArray × Int) → (Res env → Option R) → Option R := fun t3 K => K ⟨.tup [.c (.s (.string t3.1)), .c (.s (.int .i64 t3.2))], [[]]⟩
theorem f6.wn (x : (ByteArray × Int)) : ∃ res, ∀ {R : Type} (K : Res env → Option R), f6.w x K = K res := by
  exact ⟨_, fun _ => rfl⟩
def f6.hd (k : Nat) (ps_ : List (P2 env)) : Cl env :=
  gC Cl.no ps_ fun p_ ps_ => qC Cl.no p_ fun c_ => qS Cl.no c_ fun v_ => vS Cl.no v_ fun s1 => gE Cl.no ps_ <| { α := ByteArray × Int, o := f6 k s1, w := f6.w, nat := fun x _ => f6.wn x }
def f6.e (k : Nat) : Entry env := ⟨f6.hd k, [], []⟩
def f6.X (k : Nat) : Ctx env := { C := lookE [(14, f14.e k)], L := lookE [], J := lookE [], keep := lookD [], keepX := lookD [], span := lookN [], eff := fun n => memN n [], prep := lookP [], np := 0 }
theorem f6.nat {R : Type} (k : Nat) (g : (ByteArray × Int) → Option R) (s1 : ByteArray) : f6.step k g s1 = (f6 k s1).bind g := by
  simp only [f6, f6.step, bind_ite, bind_sum, Option.bind_assoc, Option.bind_some, Option.bind_none]
theorem f6.ev (k : Nat) (s1 : ByteArray) : evF (f6.X k) (bodyOf Tryd.f6) Tryd.f6.ntmps Tryd.f6.results.toList [.v (.c (.s (.string s1)))] = f6.step k (fun x => f6.w x some) s1 := by kernel_rfl
theorem f6.hok (k : Nat) : HOK (f6.X k) (bodyOf Tryd.f6) where
  l := allP_mem (by exact trivial)
  j := allP_mem (by exact trivial)
theorem f6.sound (k : Nat) : SoundC env Tryd.prog 6 ((f6.e k).F) := by
  intro ps_
  show GoodC _ _ _ ps_ (f6.hd k ps_)
  unfold f6.hd
  refine gC_ok (p := GoodC env Tryd.prog 6 _) goodC_no fun _ _ h => ?_
  subst h
  refine qC_ok (p := GoodC env Tryd.prog 6 _) goodC_no fun _ h => ?_
  subst h
  refine qS_ok (p := GoodC env Tryd.prog 6 _) goodC_no fun _ h => ?_
  subst h
  refine vS_ok (p := GoodC env Tryd.prog 6 _) goodC_no fun _ h => ?_
  subst h
  refine gE_ok (p := GoodC env Tryd.prog 6 _) goodC_no fun h => ?_
  subst h
  exact fun_good (fun_sound envOK (cs_sound _ (by exact ⟨⟨f14.sound k, f14.fnok⟩, trivial⟩)) (f6.hok k) Tryd.func6 rfl) ((f6.ev k _).trans (f6.nat k _ _))
theorem f6.says (k : Nat) (s1 : ByteArray) (t4 : ByteArray × Int) (h_ : f6 k s1 = some t4) : SoundAt env Tryd.prog 6 [.v (.c (.s (.string s1)))] ⟨.tup [.c (.s (.string t4.1)), .c (.s (.int .i64 t4.2))], [[]]⟩ :=
  fun_sound envOK (cs_sound _ (by exact ⟨⟨f14.sound k, f14.fnok⟩, trivial⟩)) (f6.hok k) Tryd.func6 rfl _ _ (((f6.ev k s1).trans (f6.nat k _ s1)).trans (by rw [h_]; rfl))
theorem f6.fnok : FnOK Tryd.prog 6 := fn_ok Tryd.func6 (by kernel_rfl) rfl
def f5.step {R : Type} (k : Nat) (ret : Bool → Option R) (xs1 : List Int) : Option R :=
  if (decide ((((List.length xs1) : Nat) : Int) > (1048576 : Int))) = true then
    ret true
  else
    (f10 k xs1).bind fun t2 => (f11 k t2).bind fun t3 => (f12 k t2).bind fun t4 => (f7 k t3.1).bind fun t5 => (f13 k xs1).bind fun t6 => (f7 k t6).bind fun t7 => (f6 k t6).bind fun t8 => if (decide (t3.2 ≠ (0 : Int))) = false then
                    if (decide (ByteArray.toList t3.1 ≠ ByteArray.toList t4.1)) = false then
                      if (decide (t5.2 ≠ (0 : Int))) = false then
                        if (decide (ByteArray.toList t5.1 ≠ ByteArray.toList t2)) = false then
                          if (decide (t7.2 ≠ t8.2)) = false then
                            if (decide (ByteArray.toList t7.1 ≠ ByteArray.toList t8.1)) = true then
                              ret false
                            else
                              if (decide (t7.2 ≠ (0 : Int))) = true then
                                ret true
                              else
                                (f11 k t7.1).bind fun t9 => (f7 k t9.1).bind fun t10 => if (decide (t9.2 = (0 : Int))) = true then
                                      if (decide (t10.2 = (0 : Int))) = true then
                                        if (decide (ByteArray.toList t10.1 = ByteArray.toList t7.1)) = true then
                                          ret (decide ((((ByteArray.size t9.1) : Nat) : Int) ≤ (39 : Int)))
                                        else
                                          ret false
                                      else
                                        ret false
                                    else
                                      ret false
                          else
                            ret false
                        else
                          ret false
                      else
                        ret false
                    else
                      ret false
                  else
                    ret false
def f5 (k : Nat) (xs1 : List Int) : Option Bool := f5.step k some xs1
def f5.w {R : Type} : Bool → (Res env → Option R) → Option R := fun t11 K => K ⟨.v (.c (.s (.bool t11))), [[]]⟩
theorem f5.wn (x : Bool) : ∃ res, ∀ {R : Type} (K : Res env → Option R), f5.w x K = K res := by
  exact ⟨_, fun _ => rfl⟩
def f5.hd (k : Nat) (ps_ : List (P2 env)) : Cl env :=
  gC Cl.no ps_ fun p_ ps_ => qC Cl.no p_ fun c_ => qSl Cl.no 5 c_ fun xs1 => gE Cl.no ps_ <| { α := Bool, o := f5 k xs1, w := f5.w, nat := fun x _ => f5.wn x }
def f5.e (k : Nat) : Entry env := ⟨fun ps => f5.hd k (coer [[.rd 5]] ps), [], []⟩
def f5.X (k : Nat) : Ctx env := { C := lookE [(6, f6.e k), (7, f7.e k), (10, f10.e k), (11, f11.e k), (12, f12.e k), (13, f13.e k)], L := lookE [], J := lookE [], keep := lookD [], keepX := lookD [], span := lookN [], eff := fun n => memN n [], prep := lookP [], np := 0 }
theorem f5.nat {R : Type} (k : Nat) (g : Bool → Option R) (xs1 : List Int) : f5.step k g xs1 = (f5 k xs1).bind g := by
  simp only [f5, f5.step, bind_ite, bind_sum, Option.bind_assoc, Option.bind_some, Option.bind_none]
theorem f5.ev (k : Nat) (xs1 : List Int) : evF (f5.X k) (bodyOf Tryd.f5) Tryd.f5.ntmps Tryd.f5.results.toList [.v (.c (.sl 5 xs1))] = f5.step k (fun x => f5.w x some) xs1 := by kernel_rfl
theorem f5.hok (k : Nat) : HOK (f5.X k) (bodyOf Tryd.f5) where
  l := allP_mem (by exact trivial)
  j := allP_mem (by exact trivial)
theorem f5.sound0 (k : Nat) : SoundC env Tryd.prog 5 (f5.hd k) := by
  intro ps_
  show GoodC _ _ _ ps_ (f5.hd k ps_)
  unfold f5.hd
  refine gC_ok (p := GoodC env Tryd.prog 5 _) goodC_no fun _ _ h => ?_
  subst h
  refine qC_ok (p := GoodC env Tryd.prog 5 _) goodC_no fun _ h => ?_
  subst h
  refine qSl_ok (p := GoodC env Tryd.prog 5 _) goodC_no fun _ h => ?_
  subst h
  refine gE_ok (p := GoodC env Tryd.prog 5 _) goodC_no fun h => ?_
  subst h
  exact fun_good (fun_sound envOK (cs_sound _ (by exact ⟨⟨f6.sound k, f6.fnok⟩, ⟨f7.sound k, f7.fnok⟩, ⟨f10.sound k, f10.fnok⟩, ⟨f11.sound k, f11.fnok⟩, ⟨f12.sound k, f12.fnok⟩, ⟨f13.sound k, f13.fnok⟩, trivial⟩)) (f5.hok k) Tryd.func5 rfl) ((f5.ev k _).trans (f5.nat k _ _))
theorem f5.sound (k : Nat) : SoundC env Tryd.prog 5 (f5.e k).F := soundC_coer (f5.sound0 k) [[.rd 5]]
theorem f5.says (k : Nat) (xs1 : List Int) (t12 : Bool) (h_ : f5 k xs1 = some t12) : SoundAt env Tryd.prog 5 [.v (.c (.sl 5 xs1))] ⟨.v (.c (.s (.bool t12))), [[]]⟩ :=
  fun_sound envOK (cs_sound _ (by exact ⟨⟨f6.sound k, f6.fnok⟩, ⟨f7.sound k, f7.fnok⟩, ⟨f10.sound k, f10.fnok⟩, ⟨f11.sound k, f11.fnok⟩, ⟨f12.sound k, f12.fnok⟩, ⟨f13.sound k, f13.fnok⟩, trivial⟩)) (f5.hok k) Tryd.func5 rfl _ _ (((f5.ev k xs1).trans (f5.nat k _ xs1)).trans (by rw [h_]; rfl))
theorem f5.fnok : FnOK Tryd.prog 5 := fn_ok Tryd.func5 (by kernel_rfl) rfl
end Go.Proofs.YtebmblbfplmcaaaDoor.B
