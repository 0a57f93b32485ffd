/- Written by a program of this session. -/
import Derived.Test.YtildepkogbcdpaaTRa
namespace Go.Proofs.Ytildepkogbcdpaa.B
open Go Go.B
set_option linter.unusedVariables false
set_option linter.unusedSimpArgs false
def f52.step {R : Type} (k : Nat) (ret : (Int × Bool × Bool × Bool × Bool × (List S79)) → Option R) (s1 : ByteArray) (b2 : Bool) (a3 : Int) (a4 : Int) (xs5 : List S79) (a6 : Int) : Option R :=
  (f121 k xs5 a6).bind fun t7 => ret (t7.1, false, false, false, false, t7.2)
def f52 (k : Nat) (s1 : ByteArray) (b2 : Bool) (a3 : Int) (a4 : Int) (xs5 : List S79) (a6 : Int) : Option (Int × Bool × Bool × Bool × Bool × (List S79)) := f52.step k some s1 b2 a3 a4 xs5 a6
def f52.w {R : Type} : (Int × Bool × Bool × Bool × Bool × (List S79)) → (Res env → Option R) → Option R := fun t8 K => K ⟨.v (.c (.s (.int .i64 t8.1))), [[.s (.bool t8.2.1), .s (.bool t8.2.2.1), .s (.bool t8.2.2.2.1), .s (.bool t8.2.2.2.2.1), .sl 79 t8.2.2.2.2.2], []]⟩
theorem f52.wn (x : (Int × Bool × Bool × Bool × Bool × (List S79))) : ∃ res, ∀ {R : Type} (K : Res env → Option R), f52.w x K = K res := by
  exact ⟨_, fun _ => rfl⟩
def f52.hd (k : Nat) (ps_ : List (P2 env)) : Cl env :=
  gC Cl.no ps_ fun p_ ps_ => qG Cl.no p_ fun cs_ => gC Cl.no cs_ fun c_ cs_ => qS Cl.no c_ fun v_ => vS Cl.no v_ fun s1 => gC Cl.no cs_ fun c_ cs_ => qS Cl.no c_ fun v_ => vB Cl.no v_ fun b2 => gC Cl.no cs_ fun c_ cs_ => qS Cl.no c_ fun v_ => vI Cl.no .i64 v_ fun a3 => gC Cl.no cs_ fun c_ cs_ => qS Cl.no c_ fun v_ => vI Cl.no .i64 v_ fun a4 => gC Cl.no cs_ fun c_ cs_ => qWr Cl.no 79 c_ fun xs5 => gE Cl.no cs_ <| gC Cl.no ps_ fun p_ ps_ => qC Cl.no p_ fun c_ => qS Cl.no c_ fun v_ => vI Cl.no .i64 v_ fun a6 => gE Cl.no ps_ <| { α := Int × Bool × Bool × Bool × Bool × (List S79), o := f52 k s1 b2 a3 a4 xs5 a6, w := f52.w, nat := fun x _ => f52.wn x }
def f52.e (k : Nat) : Entry env := ⟨fun ps => f52.hd k (coer [[.no, .no, .no, .no, .wr 79], [.no]] ps), [(0, 4)], []⟩
def f52.X (k : Nat) : Ctx env := { C := lookE [(121, f121.e k)], L := lookE [], J := lookE [], keep := lookD [], keepX := lookD [], span := lookN [], eff := fun n => memN n [], prep := lookP [], np := 130 }
theorem f52.nat {R : Type} (k : Nat) (g : (Int × Bool × Bool × Bool × Bool × (List S79)) → Option R) (s1 : ByteArray) (b2 : Bool) (a3 : Int) (a4 : Int) (xs5 : List S79) (a6 : Int) : f52.step k g s1 b2 a3 a4 xs5 a6 = (f52 k s1 b2 a3 a4 xs5 a6).bind g := by
  simp only [f52, f52.step, bind_ite, bind_sum, Option.bind_assoc, Option.bind_some, Option.bind_none]
theorem f52.ev (k : Nat) (s1 : ByteArray) (b2 : Bool) (a3 : Int) (a4 : Int) (xs5 : List S79) (a6 : Int) : evF (f52.X k) (bodyOf Try.f52) Try.f52.ntmps Try.f52.results.toList [.g [.s (.string s1), .s (.bool b2), .s (.int .i64 a3), .s (.int .i64 a4), .wr 79 xs5], .v (.c (.s (.int .i64 a6)))] = f52.step k (fun x => f52.w x some) s1 b2 a3 a4 xs5 a6 := by kernel_rfl
theorem f52.hok (k : Nat) : HOK (f52.X k) (bodyOf Try.f52) where
  l := allP_mem (by exact trivial)
  j := allP_mem (by exact trivial)
theorem f52.sound0 (k : Nat) : SoundC env Try.prog 52 (f52.hd k) := by
  intro ps_
  show GoodC _ _ _ ps_ (f52.hd k ps_)
  unfold f52.hd
  refine gC_ok (p := GoodC env Try.prog 52 _) goodC_no fun _ _ h => ?_
  subst h
  refine qG_ok (p := GoodC env Try.prog 52 _) goodC_no fun _ h => ?_
  subst h
  refine gC_ok (p := GoodC env Try.prog 52 _) goodC_no fun _ _ h => ?_
  subst h
  refine qS_ok (p := GoodC env Try.prog 52 _) goodC_no fun _ h => ?_
  subst h
  refine vS_ok (p := GoodC env Try.prog 52 _) goodC_no fun _ h => ?_
  subst h
  refine gC_ok (p := GoodC env Try.prog 52 _) goodC_no fun _ _ h => ?_
  subst h
  refine qS_ok (p := GoodC env Try.prog 52 _) goodC_no fun _ h => ?_
  subst h
  refine vB_ok (p := GoodC env Try.prog 52 _) goodC_no fun _ h => ?_
  subst h
  refine gC_ok (p := GoodC env Try.prog 52 _) goodC_no fun _ _ h => ?_
  subst h
  refine qS_ok (p := GoodC env Try.prog 52 _) goodC_no fun _ h => ?_
  subst h
  refine vI_ok (p := GoodC env Try.prog 52 _) goodC_no fun _ h => ?_
  subst h
  refine gC_ok (p := GoodC env Try.prog 52 _) goodC_no fun _ _ h => ?_
  subst h
  refine qS_ok (p := GoodC env Try.prog 52 _) goodC_no fun _ h => ?_
  subst h
  refine vI_ok (p := GoodC env Try.prog 52 _) goodC_no fun _ h => ?_
  subst h
  refine gC_ok (p := GoodC env Try.prog 52 _) goodC_no fun _ _ h => ?_
  subst h
  refine qWr_ok (p := GoodC env Try.prog 52 _) goodC_no fun _ h => ?_
  subst h
  refine gE_ok (p := GoodC env Try.prog 52 _) goodC_no fun h => ?_
  subst h
  refine gC_ok (p := GoodC env Try.prog 52 _) goodC_no fun _ _ h => ?_
  subst h
  refine qC_ok (p := GoodC env Try.prog 52 _) goodC_no fun _ h => ?_
  subst h
  refine qS_ok (p := GoodC env Try.prog 52 _) goodC_no fun _ h => ?_
  subst h
  refine vI_ok (p := GoodC env Try.prog 52 _) goodC_no fun _ h => ?_
  subst h
  refine gE_ok (p := GoodC env Try.prog 52 _) goodC_no fun h => ?_
  subst h
  exact fun_good (fun_sound envOK (cs_sound _ (by exact ⟨⟨f121.sound k, f121.fnok⟩, trivial⟩)) (f52.hok k) Try.func52 rfl) ((f52.ev k _ _ _ _ _ _).trans (f52.nat k _ _ _ _ _ _ _))
theorem f52.sound (k : Nat) : SoundC env Try.prog 52 (f52.e k).F := soundC_coer (f52.sound0 k) [[.no, .no, .no, .no, .wr 79], [.no]]
theorem f52.says (k : Nat) (s1 : ByteArray) (b2 : Bool) (a3 : Int) (a4 : Int) (xs5 : List S79) (a6 : Int) (t9 : Int × Bool × Bool × Bool × Bool × (List S79)) (h_ : f52 k s1 b2 a3 a4 xs5 a6 = some t9) : SoundAt env Try.prog 52 [.g [.s (.string s1), .s (.bool b2), .s (.int .i64 a3), .s (.int .i64 a4), .wr 79 xs5], .v (.c (.s (.int .i64 a6)))] ⟨.v (.c (.s (.int .i64 t9.1))), [[.s (.bool t9.2.1), .s (.bool t9.2.2.1), .s (.bool t9.2.2.2.1), .s (.bool t9.2.2.2.2.1), .sl 79 t9.2.2.2.2.2], []]⟩ :=
  fun_sound envOK (cs_sound _ (by exact ⟨⟨f121.sound k, f121.fnok⟩, trivial⟩)) (f52.hok k) Try.func52 rfl _ _ (((f52.ev k s1 b2 a3 a4 xs5 a6).trans (f52.nat k _ s1 b2 a3 a4 xs5 a6)).trans (by rw [h_]; rfl))
theorem f52.fnok : FnOK Try.prog 52 := fn_ok Try.func52 (by kernel_rfl) rfl
def f53.l2.step {R : Type} (k : Nat) (rec_ : Int → Int → (List S158) → Option R) (ret : (Int × (List S158)) → Option R) (a3 : Int) (a4 : Int) (xs5 : List S158) : Option R :=
  if (decide (a4 < (((List.length xs5) : Nat) : Int))) = true then
    (f122 k a3).bind fun t6 => if (0 : Int) ≤ a4 then
        if a4 < ((List.length xs5 : Nat) : Int) then
          if (0 : Int) ≤ a4 then
            if a4 < ((List.length (set158 xs5 (Int.toNat a4) 0 [.s (.string t6)]) : Nat) : Int) then
              if (0 : Int) ≤ a4 then
                if a4 < ((List.length (set158 (set158 xs5 (Int.toNat a4) 0 [.s (.string t6)]) (Int.toNat a4) 1 [.s (.int .i64 (IntKind.i64.wrap (a3 + (1 : Int))))]) : Nat) : Int) then
                  rec_ (IntKind.i64.wrap ((IntKind.i64.wrap ((IntKind.i64.wrap (a3 + (1 : Int))) + (1 : Int))) + (1 : Int))) (IntKind.i64.wrap (a4 + (1 : Int))) (set158 (set158 (set158 xs5 (Int.toNat a4) 0 [.s (.string t6)]) (Int.toNat a4) 1 [.s (.int .i64 (IntKind.i64.wrap (a3 + (1 : Int))))]) (Int.toNat a4) 2 [.s (.int .i64 (IntKind.i64.wrap ((IntKind.i64.wrap (a3 + (1 : Int))) + (1 : Int))))])
                else none
              else none
            else none
          else none
        else none
      else none
  else
    ret (a3, xs5)
def f53.l2 (k : Nat) : Nat → Int → Int → (List S158) → Option (Int × (List S158))
  | 0, _, _, _ => none
  | j + 1, a3, a4, xs5 => f53.l2.step k (fun a3 a4 xs5 => f53.l2 k j a3 a4 xs5) some a3 a4 xs5
def f53.l2.w {R : Type} : (Int × (List S158)) → (Exit → St env → Option R) → Option R := fun t8 K => K (.exit 0) ⟨fullT [0, 1] 0 35 [.v (.c (.row 2)), .v (.c (.s (.int .i64 t8.1)))], [(2, .row true 158 t8.2)], 722⟩
def f53.l2.st (a3 : Int) (a4 : Int) (xs5 : List S158) : St env := ⟨fullT [0, 1, 5] 0 35 [.v (.c (.row 2)), .v (.c (.s (.int .i64 a3))), .v (.c (.s (.int .i64 a4)))], [(2, .row true 158 xs5)], 162⟩
def f53.l2.hd (k : Nat) (ts_ : List (AV env)) (mm_ : Mem env) (n_ : Nat) : LCl env :=
  gTs LCl.no [0, 1, 5] 35 ts_ fun l_ => gV LCl.no l_ fun a_ l_ => rRow LCl.no 2 a_ <| gV LCl.no l_ fun a_ l_ => rV LCl.no a_ fun v_ => vI LCl.no .i64 v_ fun a3 => gV LCl.no l_ fun a_ l_ => rV LCl.no a_ fun v_ => vI LCl.no .i64 v_ fun a4 => gE LCl.no l_ <| mRow LCl.no 2 true 158 mm_ fun xs5 m_ => gE LCl.no m_ <| gN LCl.no 162 n_ { α := Int × (List S158), o := f53.l2 k k a3 a4 xs5, w := f53.l2.w }
def f53.step {R : Type} (k : Nat) (ret : (Int × (List S158)) → Option R) (xs1 : List S158) (a2 : Int) : Option R :=
  (f53.l2 k k a2 (0 : Int) xs1).bind fun t7 => ret (t7.1, t7.2)
def f53 (k : Nat) (xs1 : List S158) (a2 : Int) : Option (Int × (List S158)) := f53.step k some xs1 a2
def f53.w {R : Type} : (Int × (List S158)) → (Res env → Option R) → Option R := fun t9 K => K ⟨.v (.c (.s (.int .i64 t9.1))), [[.sl 158 t9.2], []]⟩
theorem f53.wn (x : (Int × (List S158))) : ∃ res, ∀ {R : Type} (K : Res env → Option R), f53.w x K = K res := by
  exact ⟨_, fun _ => rfl⟩
def f53.hd (k : Nat) (ps_ : List (P2 env)) : Cl env :=
  gC Cl.no ps_ fun p_ ps_ => qC Cl.no p_ fun c_ => qWr Cl.no 158 c_ fun xs1 => gC Cl.no ps_ fun p_ ps_ => qC Cl.no p_ fun c_ => qS Cl.no c_ fun v_ => vI Cl.no .i64 v_ fun a2 => gE Cl.no ps_ <| { α := Int × (List S158), o := f53 k xs1 a2, w := f53.w, nat := fun x _ => f53.wn x }
def f53.e (k : Nat) : Entry env := ⟨fun ps => f53.hd k (coer [[.wr 158], [.no]] ps), [(0, 0)], []⟩
def f53.X (k : Nat) : Ctx env := { C := lookE [(122, f122.e k)], L := lookE [(2, fun S => f53.l2.hd k S.ts S.m S.n)], J := lookE [], keep := lookD [(2, [0, 1, 5])], keepX := lookD [(2, [0, 1])], span := lookN [(2, 560)], eff := fun n => memN n [], prep := lookP [], np := 130 }
theorem f53.l2.nat {R : Type} (k : Nat) (rec_ : Int → Int → (List S158) → Option (Int × (List S158))) (g : (Int × (List S158)) → Option R) (a3 : Int) (a4 : Int) (xs5 : List S158) : (f53.l2.step k rec_ some a3 a4 xs5).bind g = f53.l2.step k (fun a3 a4 xs5 => (rec_ a3 a4 xs5).bind g) g a3 a4 xs5 := by
  simp only [f53.l2.step, bind_ite, bind_sum, Option.bind_assoc, Option.bind_some, Option.bind_none]
theorem f53.l2.good (k : Nat) (a3 : Int) (a4 : Int) (xs5 : List S158) : GoodL (f53.X k) (nthC 0 (loopsOf (bodyOf Try.f53))) (f53.l2.st a3 a4 xs5) { α := (Int × (List S158)), o := f53.l2 k k a3 a4 xs5, w := f53.l2.w } :=
  loop_good (ι := Int × Int × (List S158)) (α := (Int × (List S158))) (fun i => f53.l2.st i.1 i.2.1 i.2.2) (fun j i => f53.l2 k j i.1 i.2.1 i.2.2) f53.l2.w (fun rec_ ret i => f53.l2.step k (fun a3 a4 xs5 => rec_ (a3, a4, xs5)) ret i.1 i.2.1 i.2.2)
    (fun _ => rfl) (fun _ _ => rfl) (fun rec_ g i => f53.l2.nat k _ g i.1 i.2.1 i.2.2) (fun {R} i0 i rec_ K => by kernel_rfl) k (a3, a4, xs5)
theorem f53.l2.all (k : Nat) (S : St env) : GoodL (f53.X k) (nthC 0 (loopsOf (bodyOf Try.f53))) S (f53.l2.hd k S.ts S.m S.n) := by
  obtain ⟨ts_, m_, n_⟩ := S
  show GoodL _ _ _ (f53.l2.hd k ts_ m_ n_)
  unfold f53.l2.hd
  refine gTs_ok (p := GoodL _ _ _) goodL_no fun _ h => ?_
  subst h
  refine gV_ok (p := GoodL _ _ _) goodL_no fun _ _ h => ?_
  subst h
  refine rRow_ok (p := GoodL _ _ _) goodL_no fun h => ?_
  subst h
  refine gV_ok (p := GoodL _ _ _) goodL_no fun _ _ h => ?_
  subst h
  refine rV_ok (p := GoodL _ _ _) goodL_no fun _ h => ?_
  subst h
  refine vI_ok (p := GoodL _ _ _) goodL_no fun _ h => ?_
  subst h
  refine gV_ok (p := GoodL _ _ _) goodL_no fun _ _ h => ?_
  subst h
  refine rV_ok (p := GoodL _ _ _) goodL_no fun _ h => ?_
  subst h
  refine vI_ok (p := GoodL _ _ _) goodL_no fun _ h => ?_
  subst h
  refine gE_ok (p := GoodL _ _ _) goodL_no fun h => ?_
  subst h
  refine mRow_ok (p := GoodL _ _ _) goodL_no fun _ _ h => ?_
  subst h
  refine gE_ok (p := GoodL _ _ _) goodL_no fun h => ?_
  subst h
  refine gN_ok (p := GoodL _ _ _) goodL_no fun h => ?_
  subst h
  exact f53.l2.good k _ _ _
theorem f53.nat {R : Type} (k : Nat) (g : (Int × (List S158)) → Option R) (xs1 : List S158) (a2 : Int) : f53.step k g xs1 a2 = (f53 k xs1 a2).bind g := by
  simp only [f53, f53.step, bind_ite, bind_sum, Option.bind_assoc, Option.bind_some, Option.bind_none]
theorem f53.ev (k : Nat) (xs1 : List S158) (a2 : Int) : evF (f53.X k) (bodyOf Try.f53) Try.f53.ntmps Try.f53.results.toList [.v (.c (.wr 158 xs1)), .v (.c (.s (.int .i64 a2)))] = f53.step k (fun x => f53.w x some) xs1 a2 := by kernel_rfl
theorem f53.hok (k : Nat) : HOK (f53.X k) (bodyOf Try.f53) where
  l := allP_mem (by exact ⟨ls_of (h0 := fun S => f53.l2.hd k S.ts S.m S.n) (by kernel_rfl) (f53.l2.all k), trivial⟩)
  j := allP_mem (by exact trivial)
theorem f53.sound0 (k : Nat) : SoundC env Try.prog 53 (f53.hd k) := by
  intro ps_
  show GoodC _ _ _ ps_ (f53.hd k ps_)
  unfold f53.hd
  refine gC_ok (p := GoodC env Try.prog 53 _) goodC_no fun _ _ h => ?_
  subst h
  refine qC_ok (p := GoodC env Try.prog 53 _) goodC_no fun _ h => ?_
  subst h
  refine qWr_ok (p := GoodC env Try.prog 53 _) goodC_no fun _ h => ?_
  subst h
  refine gC_ok (p := GoodC env Try.prog 53 _) goodC_no fun _ _ h => ?_
  subst h
  refine qC_ok (p := GoodC env Try.prog 53 _) goodC_no fun _ h => ?_
  subst h
  refine qS_ok (p := GoodC env Try.prog 53 _) goodC_no fun _ h => ?_
  subst h
  refine vI_ok (p := GoodC env Try.prog 53 _) goodC_no fun _ h => ?_
  subst h
  refine gE_ok (p := GoodC env Try.prog 53 _) goodC_no fun h => ?_
  subst h
  exact fun_good (fun_sound envOK (cs_sound _ (by exact ⟨⟨f122.sound k, f122.fnok⟩, trivial⟩)) (f53.hok k) Try.func53 rfl) ((f53.ev k _ _).trans (f53.nat k _ _ _))
theorem f53.sound (k : Nat) : SoundC env Try.prog 53 (f53.e k).F := soundC_coer (f53.sound0 k) [[.wr 158], [.no]]
theorem f53.says (k : Nat) (xs1 : List S158) (a2 : Int) (t10 : Int × (List S158)) (h_ : f53 k xs1 a2 = some t10) : SoundAt env Try.prog 53 [.v (.c (.wr 158 xs1)), .v (.c (.s (.int .i64 a2)))] ⟨.v (.c (.s (.int .i64 t10.1))), [[.sl 158 t10.2], []]⟩ :=
  fun_sound envOK (cs_sound _ (by exact ⟨⟨f122.sound k, f122.fnok⟩, trivial⟩)) (f53.hok k) Try.func53 rfl _ _ (((f53.ev k xs1 a2).trans (f53.nat k _ xs1 a2)).trans (by rw [h_]; rfl))
theorem f53.fnok : FnOK Try.prog 53 := fn_ok Try.func53 (by kernel_rfl) rfl
def f54.l2.step {R : Type} (k : Nat) (rec_ : (List S158) → Int → Int → Option R) (ret : ((Int × Int) ⊕ (Int)) → Option R) (xs3 : List S158) (a4 : Int) (a5 : Int) : Option R :=
  if (decide (a5 < (((List.length xs3) : Nat) : Int))) = true then
    if (0 : Int) ≤ a5 then
      if a5 < ((List.length xs3 : Nat) : Int) then
        (f122 k a4).bind fun t6 => if (decide (ByteArray.toList (List.getD xs3 (Int.toNat a5) (⟨ByteArray.empty, (0 : Int), (0 : Int)⟩ : S158)).f0 ≠ ByteArray.toList t6)) = true then
            ret (.inl (a4, (-1 : Int)))
          else
            if (0 : Int) ≤ a5 then
              if a5 < ((List.length xs3 : Nat) : Int) then
                if (decide ((List.getD xs3 (Int.toNat a5) (⟨ByteArray.empty, (0 : Int), (0 : Int)⟩ : S158)).f1 ≠ (IntKind.i64.wrap (a4 + (1 : Int))))) = true then
                  ret (.inl ((IntKind.i64.wrap (a4 + (1 : Int))), (-1 : Int)))
                else
                  if (0 : Int) ≤ a5 then
                    if a5 < ((List.length xs3 : Nat) : Int) then
                      if (decide ((List.getD xs3 (Int.toNat a5) (⟨ByteArray.empty, (0 : Int), (0 : Int)⟩ : S158)).f2 ≠ (IntKind.i64.wrap ((IntKind.i64.wrap (a4 + (1 : Int))) + (1 : Int))))) = true then
                        ret (.inl ((IntKind.i64.wrap ((IntKind.i64.wrap (a4 + (1 : Int))) + (1 : Int))), (-1 : Int)))
                      else
                        rec_ xs3 (IntKind.i64.wrap ((IntKind.i64.wrap ((IntKind.i64.wrap (a4 + (1 : Int))) + (1 : Int))) + (1 : Int))) (IntKind.i64.wrap (a5 + (1 : Int)))
                    else none
                  else none
              else none
            else none
      else none
    else none
  else
    ret (.inr a4)
def f54.l2 (k : Nat) : Nat → (List S158) → Int → Int → Option ((Int × Int) ⊕ (Int))
  | 0, _, _, _ => none
  | j + 1, xs3, a4, a5 => f54.l2.step k (fun xs3 a4 a5 => f54.l2 k j xs3 a4 a5) some xs3 a4 a5
def f54.l2.w {R : Type} : ((Int × Int) ⊕ (Int)) → (Exit → St env → Option R) → Option R := fun x K => Sum.elim (fun t9 => K .ret ⟨fullT [1, 4] 0 41 [.v (.c (.s (.int .i64 t9.1))), .v (.c (.s (.int .i64 t9.2)))], [], 690⟩) (fun t10 => K (.exit 0) ⟨fullT [1] 0 41 [.v (.c (.s (.int .i64 t10)))], [], 690⟩) x
def f54.l2.st (xs3 : List S158) (a4 : Int) (a5 : Int) : St env := ⟨fullT [0, 1, 5] 0 41 [.v (.c (.imm 158 xs3)), .v (.c (.s (.int .i64 a4))), .v (.c (.s (.int .i64 a5)))], [], 34⟩
def f54.l2.hd (k : Nat) (ts_ : List (AV env)) (mm_ : Mem env) (n_ : Nat) : LCl env :=
  gTs LCl.no [0, 1, 5] 41 ts_ fun l_ => gV LCl.no l_ fun a_ l_ => rImm LCl.no 158 a_ fun xs3 => gV LCl.no l_ fun a_ l_ => rV LCl.no a_ fun v_ => vI LCl.no .i64 v_ fun a4 => gV LCl.no l_ fun a_ l_ => rV LCl.no a_ fun v_ => vI LCl.no .i64 v_ fun a5 => gE LCl.no l_ <| gE LCl.no mm_ <| gN LCl.no 34 n_ { α := (Int × Int) ⊕ (Int), o := f54.l2 k k xs3 a4 a5, w := f54.l2.w }
def f54.step {R : Type} (k : Nat) (ret : Int → Option R) (xs1 : List S158) (a2 : Int) : Option R :=
  (f54.l2 k k xs1 a2 (0 : Int)).bind (Sum.elim (fun t7 => ret t7.2) (fun t8 => ret t8))
def f54 (k : Nat) (xs1 : List S158) (a2 : Int) : Option Int := f54.step k some xs1 a2
def f54.w {R : Type} : Int → (Res env → Option R) → Option R := fun t11 K => K ⟨.v (.c (.s (.int .i64 t11))), [[], []]⟩
theorem f54.wn (x : Int) : ∃ res, ∀ {R : Type} (K : Res env → Option R), f54.w x K = K res := by
  exact ⟨_, fun _ => rfl⟩
def f54.hd (k : Nat) (ps_ : List (P2 env)) : Cl env :=
  gC Cl.no ps_ fun p_ ps_ => qC Cl.no p_ fun c_ => qSl Cl.no 158 c_ fun xs1 => gC Cl.no ps_ fun p_ ps_ => qC Cl.no p_ fun c_ => qS Cl.no c_ fun v_ => vI Cl.no .i64 v_ fun a2 => gE Cl.no ps_ <| { α := Int, o := f54 k xs1 a2, w := f54.w, nat := fun x _ => f54.wn x }
def f54.e (k : Nat) : Entry env := ⟨fun ps => f54.hd k (coer [[.rd 158], [.no]] ps), [], []⟩
def f54.X (k : Nat) : Ctx env := { C := lookE [(122, f122.e k)], L := lookE [(2, fun S => f54.l2.hd k S.ts S.m S.n)], J := lookE [], keep := lookD [(2, [0, 1, 5])], keepX := lookD [(2, [1, 4])], span := lookN [(2, 656)], eff := fun n => memN n [], prep := lookP [], np := 0 }
theorem f54.l2.nat {R : Type} (k : Nat) (rec_ : (List S158) → Int → Int → Option ((Int × Int) ⊕ (Int))) (g : ((Int × Int) ⊕ (Int)) → Option R) (xs3 : List S158) (a4 : Int) (a5 : Int) : (f54.l2.step k rec_ some xs3 a4 a5).bind g = f54.l2.step k (fun xs3 a4 a5 => (rec_ xs3 a4 a5).bind g) g xs3 a4 a5 := by
  simp only [f54.l2.step, bind_ite, bind_sum, Option.bind_assoc, Option.bind_some, Option.bind_none]
theorem f54.l2.good (k : Nat) (xs3 : List S158) (a4 : Int) (a5 : Int) : GoodL (f54.X k) (nthC 0 (loopsOf (bodyOf Try.f54))) (f54.l2.st xs3 a4 a5) { α := ((Int × Int) ⊕ (Int)), o := f54.l2 k k xs3 a4 a5, w := f54.l2.w } :=
  loop_good (ι := (List S158) × Int × Int) (α := ((Int × Int) ⊕ (Int))) (fun i => f54.l2.st i.1 i.2.1 i.2.2) (fun j i => f54.l2 k j i.1 i.2.1 i.2.2) f54.l2.w (fun rec_ ret i => f54.l2.step k (fun xs3 a4 a5 => rec_ (xs3, a4, a5)) ret i.1 i.2.1 i.2.2)
    (fun _ => rfl) (fun _ _ => rfl) (fun rec_ g i => f54.l2.nat k _ g i.1 i.2.1 i.2.2) (fun {R} i0 i rec_ K => by kernel_rfl) k (xs3, a4, a5)
theorem f54.l2.all (k : Nat) (S : St env) : GoodL (f54.X k) (nthC 0 (loopsOf (bodyOf Try.f54))) S (f54.l2.hd k S.ts S.m S.n) := by
  obtain ⟨ts_, m_, n_⟩ := S
  show GoodL _ _ _ (f54.l2.hd k ts_ m_ n_)
  unfold f54.l2.hd
  refine gTs_ok (p := GoodL _ _ _) goodL_no fun _ h => ?_
  subst h
  refine gV_ok (p := GoodL _ _ _) goodL_no fun _ _ h => ?_
  subst h
  refine rImm_ok (p := GoodL _ _ _) goodL_no fun _ h => ?_
  subst h
  refine gV_ok (p := GoodL _ _ _) goodL_no fun _ _ h => ?_
  subst h
  refine rV_ok (p := GoodL _ _ _) goodL_no fun _ h => ?_
  subst h
  refine vI_ok (p := GoodL _ _ _) goodL_no fun _ h => ?_
  subst h
  refine gV_ok (p := GoodL _ _ _) goodL_no fun _ _ h => ?_
  subst h
  refine rV_ok (p := GoodL _ _ _) goodL_no fun _ h => ?_
  subst h
  refine vI_ok (p := GoodL _ _ _) goodL_no fun _ h => ?_
  subst h
  refine gE_ok (p := GoodL _ _ _) goodL_no fun h => ?_
  subst h
  refine gE_ok (p := GoodL _ _ _) goodL_no fun h => ?_
  subst h
  refine gN_ok (p := GoodL _ _ _) goodL_no fun h => ?_
  subst h
  exact f54.l2.good k _ _ _
theorem f54.nat {R : Type} (k : Nat) (g : Int → Option R) (xs1 : List S158) (a2 : Int) : f54.step k g xs1 a2 = (f54 k xs1 a2).bind g := by
  simp only [f54, f54.step, bind_ite, bind_sum, Option.bind_assoc, Option.bind_some, Option.bind_none]
theorem f54.ev (k : Nat) (xs1 : List S158) (a2 : Int) : evF (f54.X k) (bodyOf Try.f54) Try.f54.ntmps Try.f54.results.toList [.v (.c (.sl 158 xs1)), .v (.c (.s (.int .i64 a2)))] = f54.step k (fun x => f54.w x some) xs1 a2 := by kernel_rfl
theorem f54.hok (k : Nat) : HOK (f54.X k) (bodyOf Try.f54) where
  l := allP_mem (by exact ⟨ls_of (h0 := fun S => f54.l2.hd k S.ts S.m S.n) (by kernel_rfl) (f54.l2.all k), trivial⟩)
  j := allP_mem (by exact trivial)
theorem f54.sound0 (k : Nat) : SoundC env Try.prog 54 (f54.hd k) := by
  intro ps_
  show GoodC _ _ _ ps_ (f54.hd k ps_)
  unfold f54.hd
  refine gC_ok (p := GoodC env Try.prog 54 _) goodC_no fun _ _ h => ?_
  subst h
  refine qC_ok (p := GoodC env Try.prog 54 _) goodC_no fun _ h => ?_
  subst h
  refine qSl_ok (p := GoodC env Try.prog 54 _) goodC_no fun _ h => ?_
  subst h
  refine gC_ok (p := GoodC env Try.prog 54 _) goodC_no fun _ _ h => ?_
  subst h
  refine qC_ok (p := GoodC env Try.prog 54 _) goodC_no fun _ h => ?_
  subst h
  refine qS_ok (p := GoodC env Try.prog 54 _) goodC_no fun _ h => ?_
  subst h
  refine vI_ok (p := GoodC env Try.prog 54 _) goodC_no fun _ h => ?_
  subst h
  refine gE_ok (p := GoodC env Try.prog 54 _) goodC_no fun h => ?_
  subst h
  exact fun_good (fun_sound envOK (cs_sound _ (by exact ⟨⟨f122.sound k, f122.fnok⟩, trivial⟩)) (f54.hok k) Try.func54 rfl) ((f54.ev k _ _).trans (f54.nat k _ _ _))
theorem f54.sound (k : Nat) : SoundC env Try.prog 54 (f54.e k).F := soundC_coer (f54.sound0 k) [[.rd 158], [.no]]
theorem f54.says (k : Nat) (xs1 : List S158) (a2 : Int) (t12 : Int) (h_ : f54 k xs1 a2 = some t12) : SoundAt env Try.prog 54 [.v (.c (.sl 158 xs1)), .v (.c (.s (.int .i64 a2)))] ⟨.v (.c (.s (.int .i64 t12))), [[], []]⟩ :=
  fun_sound envOK (cs_sound _ (by exact ⟨⟨f122.sound k, f122.fnok⟩, trivial⟩)) (f54.hok k) Try.func54 rfl _ _ (((f54.ev k xs1 a2).trans (f54.nat k _ xs1 a2)).trans (by rw [h_]; rfl))
theorem f54.fnok : FnOK Try.prog 54 := fn_ok Try.func54 (by kernel_rfl) rfl
def f8.step {R : Type} (k : Nat) (ret : Bool → Option R) (s1 : ByteArray) (b2 : Bool) (a3 : Int) (a4 : Int) (xs5 : List S72) : Option R :=
  (f46 k s1 b2 a3 a4 xs5 (1048576 : Int)).bind fun t6 => if (decide (t6 < (0 : Int))) = true then
      ret true
    else
      (f48 k s1 b2 a3 a4 xs5).bind fun t7 => (f47 k t7.1 t7.2.1 t7.2.2.1 t7.2.2.2.1 t7.2.2.2.2).bind fun t8 => (f48 k s1 b2 a3 a4 xs5).bind fun t9 => (f49 k t9.1 t9.2.1 t9.2.2.1 t9.2.2.2.1 t9.2.2.2.2).bind (Sum.elim (fun t10 => (f50 k ([] : List S158) t8.1).bind fun t11 => if (!t11) = false then
                  if (decide (t10 ≠ t8.2)) = true then
                    ret false
                  else
                    (f48 k s1 b2 a3 a4 xs5).bind fun t12 => (f51 k t9.1 t9.2.1 t9.2.2.1 t9.2.2.2.1 t9.2.2.2.2 t12.1 t12.2.1 t12.2.2.1 t12.2.2.2.1 t12.2.2.2.2).bind fun t13 => if (!t13) = true then
                          ret false
                        else
                          (f52 k t9.1 t9.2.1 t9.2.2.1 t9.2.2.2.1 t9.2.2.2.2 (1 : Int)).bind fun t14 => if (decide (t14.1 < (0 : Int))) = false then
                              (f50 k ([] : List S158) t8.1).bind fun t15 => if (!t15) = false then
                                  if (decide (t10 ≠ t8.2)) = true then
                                    ret false
                                  else
                                    (f53 k ([] : List S158) (1 : Int)).bind fun t16 => (f54 k ([] : List S158) (1 : Int)).bind fun t17 => if (decide (t17 < (0 : Int))) = true then
                                          ret false
                                        else
                                          if (decide (t17 ≠ t16.1)) = true then
                                            ret false
                                          else
                                            (f48 k s1 b2 a3 a4 xs5).bind fun t18 => (f49 k t18.1 t18.2.1 t18.2.2.1 t18.2.2.2.1 t18.2.2.2.2).bind (Sum.elim (fun t19 => (f50 k ([] : List S158) t8.1).bind fun t20 => if (!t20) = false then
                                                    if (decide (t19 ≠ t8.2)) = true then
                                                      ret false
                                                    else
                                                      (f54 k ([] : List S158) (1 : Int)).bind fun t21 => if (decide (t21 < (0 : Int))) = true then
                                                          ret false
                                                        else
                                                          if (decide (t21 ≠ t16.1)) = true then
                                                            ret false
                                                          else
                                                            ret true
                                                  else
                                                    ret false) (fun t22 => (f50 k t22.1 t8.1).bind fun t23 => if (!t23) = false then
                                                    if (decide (t22.2 ≠ t8.2)) = true then
                                                      ret false
                                                    else
                                                      (f54 k ([] : List S158) (1 : Int)).bind fun t24 => if (decide (t24 < (0 : Int))) = true then
                                                          ret false
                                                        else
                                                          if (decide (t24 ≠ t16.1)) = true then
                                                            ret false
                                                          else
                                                            ret true
                                                  else
                                                    ret false))
                                else
                                  ret false
                            else
                              ret false
                else
                  ret false) (fun t25 => (f50 k t25.1 t8.1).bind fun t26 => if (!t26) = false then
                  if (decide (t25.2 ≠ t8.2)) = true then
                    ret false
                  else
                    (f48 k s1 b2 a3 a4 xs5).bind fun t27 => (f51 k t9.1 t9.2.1 t9.2.2.1 t9.2.2.2.1 t9.2.2.2.2 t27.1 t27.2.1 t27.2.2.1 t27.2.2.2.1 t27.2.2.2.2).bind fun t28 => if (!t28) = true then
                          ret false
                        else
                          (f52 k t9.1 t9.2.1 t9.2.2.1 t9.2.2.2.1 t9.2.2.2.2 (1 : Int)).bind fun t29 => if (decide (t29.1 < (0 : Int))) = false then
                              (f50 k t25.1 t8.1).bind fun t30 => if (!t30) = false then
                                  if (decide (t25.2 ≠ t8.2)) = true then
                                    ret false
                                  else
                                    (f53 k t25.1 (1 : Int)).bind fun t31 => (f54 k t31.2 (1 : Int)).bind fun t32 => if (decide (t32 < (0 : Int))) = true then
                                          ret false
                                        else
                                          if (decide (t32 ≠ t31.1)) = true then
                                            ret false
                                          else
                                            (f48 k s1 b2 a3 a4 xs5).bind fun t33 => (f49 k t33.1 t33.2.1 t33.2.2.1 t33.2.2.2.1 t33.2.2.2.2).bind (Sum.elim (fun t34 => (f50 k ([] : List S158) t8.1).bind fun t35 => if (!t35) = false then
                                                    if (decide (t34 ≠ t8.2)) = true then
                                                      ret false
                                                    else
                                                      (f54 k t31.2 (1 : Int)).bind fun t36 => if (decide (t36 < (0 : Int))) = true then
                                                          ret false
                                                        else
                                                          if (decide (t36 ≠ t31.1)) = true then
                                                            ret false
                                                          else
                                                            ret true
                                                  else
                                                    ret false) (fun t37 => (f50 k t37.1 t8.1).bind fun t38 => if (!t38) = false then
                                                    if (decide (t37.2 ≠ t8.2)) = true then
                                                      ret false
                                                    else
                                                      (f54 k t31.2 (1 : Int)).bind fun t39 => if (decide (t39 < (0 : Int))) = true then
                                                          ret false
                                                        else
                                                          if (decide (t39 ≠ t31.1)) = true then
                                                            ret false
                                                          else
                                                            ret true
                                                  else
                                                    ret false))
                                else
                                  ret false
                            else
                              ret false
                else
                  ret false))
def f8 (k : Nat) (s1 : ByteArray) (b2 : Bool) (a3 : Int) (a4 : Int) (xs5 : List S72) : Option Bool := f8.step k some s1 b2 a3 a4 xs5
def f8.w {R : Type} : Bool → (Res env → Option R) → Option R := fun t40 K => K ⟨.v (.c (.s (.bool t40))), [[]]⟩
theorem f8.wn (x : Bool) : ∃ res, ∀ {R : Type} (K : Res env → Option R), f8.w x K = K res := by
  exact ⟨_, fun _ => rfl⟩
def f8.hd (k : Nat) (ps_ : List (P2 env)) : Cl env :=
  gC Cl.no ps_ fun p_ ps_ => qG Cl.no p_ fun cs_ => gC Cl.no cs_ fun c_ cs_ => qS Cl.no c_ fun v_ => vS Cl.no v_ fun s1 => gC Cl.no cs_ fun c_ cs_ => qS Cl.no c_ fun v_ => vB Cl.no v_ fun b2 => gC Cl.no cs_ fun c_ cs_ => qS Cl.no c_ fun v_ => vI Cl.no .i64 v_ fun a3 => gC Cl.no cs_ fun c_ cs_ => qS Cl.no c_ fun v_ => vI Cl.no .i64 v_ fun a4 => gC Cl.no cs_ fun c_ cs_ => qSl Cl.no 72 c_ fun xs5 => gE Cl.no cs_ <| gE Cl.no ps_ <| { α := Bool, o := f8 k s1 b2 a3 a4 xs5, w := f8.w, nat := fun x _ => f8.wn x }
def f8.e (k : Nat) : Entry env := ⟨fun ps => f8.hd k (coer [[.no, .no, .no, .no, .rd 72]] ps), [], []⟩
def f8.X (k : Nat) : Ctx env := { C := lookE [(46, f46.e k), (47, f47.e k), (48, f48.e k), (49, f49.e k), (50, f50.e k), (51, f51.e k), (52, f52.e k), (53, f53.e k), (54, f54.e k)], L := lookE [], J := lookE [], keep := lookD [], keepX := lookD [], span := lookN [], eff := fun n => memN n [10], prep := lookP [], np := 0 }
theorem f8.nat {R : Type} (k : Nat) (g : Bool → Option R) (s1 : ByteArray) (b2 : Bool) (a3 : Int) (a4 : Int) (xs5 : List S72) : f8.step k g s1 b2 a3 a4 xs5 = (f8 k s1 b2 a3 a4 xs5).bind g := by
  simp only [f8, f8.step, bind_ite, bind_sum, Option.bind_assoc, Option.bind_some, Option.bind_none]
theorem f8.ev (k : Nat) (s1 : ByteArray) (b2 : Bool) (a3 : Int) (a4 : Int) (xs5 : List S72) : evF (f8.X k) (bodyOf Try.f8) Try.f8.ntmps Try.f8.results.toList [.g [.s (.string s1), .s (.bool b2), .s (.int .i64 a3), .s (.int .i64 a4), .sl 72 xs5]] = f8.step k (fun x => f8.w x some) s1 b2 a3 a4 xs5 := by kernel_rfl
theorem f8.hok (k : Nat) : HOK (f8.X k) (bodyOf Try.f8) where
  l := allP_mem (by exact trivial)
  j := allP_mem (by exact trivial)
theorem f8.sound0 (k : Nat) : SoundC env Try.prog 8 (f8.hd k) := by
  intro ps_
  show GoodC _ _ _ ps_ (f8.hd k ps_)
  unfold f8.hd
  refine gC_ok (p := GoodC env Try.prog 8 _) goodC_no fun _ _ h => ?_
  subst h
  refine qG_ok (p := GoodC env Try.prog 8 _) goodC_no fun _ h => ?_
  subst h
  refine gC_ok (p := GoodC env Try.prog 8 _) goodC_no fun _ _ h => ?_
  subst h
  refine qS_ok (p := GoodC env Try.prog 8 _) goodC_no fun _ h => ?_
  subst h
  refine vS_ok (p := GoodC env Try.prog 8 _) goodC_no fun _ h => ?_
  subst h
  refine gC_ok (p := GoodC env Try.prog 8 _) goodC_no fun _ _ h => ?_
  subst h
  refine qS_ok (p := GoodC env Try.prog 8 _) goodC_no fun _ h => ?_
  subst h
  refine vB_ok (p := GoodC env Try.prog 8 _) goodC_no fun _ h => ?_
  subst h
  refine gC_ok (p := GoodC env Try.prog 8 _) goodC_no fun _ _ h => ?_
  subst h
  refine qS_ok (p := GoodC env Try.prog 8 _) goodC_no fun _ h => ?_
  subst h
  refine vI_ok (p := GoodC env Try.prog 8 _) goodC_no fun _ h => ?_
  subst h
  refine gC_ok (p := GoodC env Try.prog 8 _) goodC_no fun _ _ h => ?_
  subst h
  refine qS_ok (p := GoodC env Try.prog 8 _) goodC_no fun _ h => ?_
  subst h
  refine vI_ok (p := GoodC env Try.prog 8 _) goodC_no fun _ h => ?_
  subst h
  refine gC_ok (p := GoodC env Try.prog 8 _) goodC_no fun _ _ h => ?_
  subst h
  refine qSl_ok (p := GoodC env Try.prog 8 _) goodC_no fun _ h => ?_
  subst h
  refine gE_ok (p := GoodC env Try.prog 8 _) goodC_no fun h => ?_
  subst h
  refine gE_ok (p := GoodC env Try.prog 8 _) goodC_no fun h => ?_
  subst h
  exact fun_good (fun_sound envOK (cs_sound _ (by exact ⟨⟨f46.sound k, f46.fnok⟩, ⟨f47.sound k, f47.fnok⟩, ⟨f48.sound k, f48.fnok⟩, ⟨f49.sound k, f49.fnok⟩, ⟨f50.sound k, f50.fnok⟩, ⟨f51.sound k, f51.fnok⟩, ⟨f52.sound k, f52.fnok⟩, ⟨f53.sound k, f53.fnok⟩, ⟨f54.sound k, f54.fnok⟩, trivial⟩)) (f8.hok k) Try.func8 rfl) ((f8.ev k _ _ _ _ _).trans (f8.nat k _ _ _ _ _ _))
theorem f8.sound (k : Nat) : SoundC env Try.prog 8 (f8.e k).F := soundC_coer (f8.sound0 k) [[.no, .no, .no, .no, .rd 72]]
theorem f8.says (k : Nat) (s1 : ByteArray) (b2 : Bool) (a3 : Int) (a4 : Int) (xs5 : List S72) (t41 : Bool) (h_ : f8 k s1 b2 a3 a4 xs5 = some t41) : SoundAt env Try.prog 8 [.g [.s (.string s1), .s (.bool b2), .s (.int .i64 a3), .s (.int .i64 a4), .sl 72 xs5]] ⟨.v (.c (.s (.bool t41))), [[]]⟩ :=
  fun_sound envOK (cs_sound _ (by exact ⟨⟨f46.sound k, f46.fnok⟩, ⟨f47.sound k, f47.fnok⟩, ⟨f48.sound k, f48.fnok⟩, ⟨f49.sound k, f49.fnok⟩, ⟨f50.sound k, f50.fnok⟩, ⟨f51.sound k, f51.fnok⟩, ⟨f52.sound k, f52.fnok⟩, ⟨f53.sound k, f53.fnok⟩, ⟨f54.sound k, f54.fnok⟩, trivial⟩)) (f8.hok k) Try.func8 rfl _ _ (((f8.ev k s1 b2 a3 a4 xs5).trans (f8.nat k _ s1 b2 a3 a4 xs5)).trans (by rw [h_]; rfl))
theorem f8.fnok : FnOK Try.prog 8 := fn_ok Try.func8 (by kernel_rfl) rfl
end Go.Proofs.Ytildepkogbcdpaa.B
