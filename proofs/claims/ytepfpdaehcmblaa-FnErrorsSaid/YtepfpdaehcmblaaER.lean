/- Written by a program of this session. -/
import Derived.Test.YtepfpdaehcmblaaERa
namespace Go.Proofs.Ytepfpdaehcmblaa.B
open Go Go.B
open Option renaming bind_assoc → oA, bind_some → oS, bind_none → oN
set_option linter.unusedVariables false
set_option linter.unusedSimpArgs false
def f87.step {R : Type} (k : Nat) (ret : Bool → Option R) (s1 : ByteArray) (a2 a3 : Int) : Option R :=
 (f158 k s1).bind fun t4 => if t4 = true then
 (f61 k a2 0 99).bind fun t5 => if t5 = true then
 (f61 k a3 0 16).bind fun t6 => ret t6
 else
 ret false
 else
 ret false
def f87 (k : Nat) (s1 : ByteArray) (a2 a3 : Int) := f87.step k some s1 a2 a3
def f87.w {R : Type} : Bool → (Res env → Option R) → Option R := fun t7 K => K ⟨.v (.c (.s (.bool t7))), [[]]⟩
theorem f87.wn (x : Bool) : ∃ res, ∀ {R : Type} (K : Res env → Option R), f87.w x K = K res := by
 exact ⟨_, fun _ => rfl⟩
def f87.hd (k : Nat) (ps_ : List (P2 env)) : Cl env :=
 gC Cl.no ps_ fun p_ ps_ => qG Cl.no p_ fun cs_ => dS Cl.no cs_ fun s1 cs_ => dI Cl.no cs_ fun a2 cs_ => dI Cl.no cs_ fun a3 cs_ => gE Cl.no cs_ <| gE Cl.no ps_ <| { α := Bool, o := f87 k s1 a2 a3, w := f87.w, nat := fun x _ => f87.wn x }
def f87.e (k : Nat) : Entry env := ⟨f87.hd k, [], []⟩
def f87.X (k : Nat) : Ctx env := { X0 with C := lookE [(61, f61.e k), (158, f158.e k)] }
theorem f87.nat {R : Type} (k : Nat) (g : _ → Option R) (s1 a2 a3) : f87.step k g s1 a2 a3 = (f87 k s1 a2 a3).bind g := by
 simp only [f87, f87.step, bind_ite, bind_sum, oA, oS, oN]
theorem f87.ev (k : Nat) (s1 : ByteArray) (a2 a3 : Int) : evF (f87.X k) (bodyOf Try.f87) Try.f87.ntmps Try.f87.results.toList [.g [.s (.string s1), .s (.int .i64 a2), .s (.int .i64 a3)]] = f87.step k (fun x => f87.w x some) s1 a2 a3 := by kernel_rfl
theorem f87.hok (k : Nat) : HOK (f87.X k) (bodyOf Try.f87) where
 l := allP_mem (by exact trivial)
 j := allP_mem (by exact trivial)
 q := allP_mem (by exact trivial)
theorem f87.sound (k : Nat) : SoundC env Try.prog 87 ((f87.e k).F) := by
 intro ps_
 show GoodC _ _ _ ps_ (f87.hd k ps_)
 unfold f87.hd
 have hF_ := fun_sound envOK (cs_sound _ (by exact ⟨⟨f61.sound k, f61.fnok⟩, ⟨f158.sound k, f158.fnok⟩, trivial⟩)) (f87.hok k) Try.func87 rfl
 have hev_ := f87.ev k
 have hnat_ := fun g_ => f87.nat k (R := Res env) g_
 exact rdC
theorem f87.fnok : FnOK Try.prog 87 := fn_ok Try.func87 (by kernel_rfl) rfl
def f191.step {R : Type} (k : Nat) (ret : Bool → Option R) (s1 s2 : ByteArray) : Option R :=
 if (decide ((((ByteArray.size s1) : Nat) : Int) ≥ (((ByteArray.size s2) : Nat) : Int))) = true then
 if 0 ≤ (((ByteArray.size s2) : Nat) : Int) then
 if (((ByteArray.size s2) : Nat) : Int) ≤ ((ByteArray.size s1 : Nat) : Int) then
 ret (decide (ByteArray.toList (ByteArray.extract s1 0 (Int.toNat (((ByteArray.size s2) : Nat) : Int))) = ByteArray.toList s2))
 else none
 else none
 else
 ret false
def f191 (k : Nat) (s1 s2 : ByteArray) := f191.step k some s1 s2
def f191.w {R : Type} : Bool → (Res env → Option R) → Option R := fun t3 K => K ⟨.v (.c (.s (.bool t3))), [[], []]⟩
theorem f191.wn (x : Bool) : ∃ res, ∀ {R : Type} (K : Res env → Option R), f191.w x K = K res := by
 exact ⟨_, fun _ => rfl⟩
def f191.hd (k : Nat) (ps_ : List (P2 env)) : Cl env :=
 pS Cl.no ps_ fun s1 ps_ => pS Cl.no ps_ fun s2 ps_ => gE Cl.no ps_ <| { α := Bool, o := f191 k s1 s2, w := f191.w, nat := fun x _ => f191.wn x }
def f191.e (k : Nat) : Entry env := ⟨f191.hd k, [], []⟩
def f191.X (k : Nat) : Ctx env := X0
theorem f191.nat {R : Type} (k : Nat) (g : _ → Option R) (s1 s2) : f191.step k g s1 s2 = (f191 k s1 s2).bind g := by
 simp only [f191, f191.step, bind_ite, bind_sum, oA, oS, oN]
theorem f191.ev (k : Nat) (s1 s2 : ByteArray) : evF (f191.X k) (bodyOf Try.f191) Try.f191.ntmps Try.f191.results.toList [.v (.c (.s (.string s1))), .v (.c (.s (.string s2)))] = f191.step k (fun x => f191.w x some) s1 s2 := by kernel_rfl
theorem f191.hok (k : Nat) : HOK (f191.X k) (bodyOf Try.f191) where
 l := allP_mem (by exact trivial)
 j := allP_mem (by exact trivial)
 q := allP_mem (by exact trivial)
theorem f191.sound (k : Nat) : SoundC env Try.prog 191 ((f191.e k).F) := by
 intro ps_
 show GoodC _ _ _ ps_ (f191.hd k ps_)
 unfold f191.hd
 have hF_ := fun_sound envOK (cs_sound _ (by exact trivial)) (f191.hok k) Try.func191 rfl
 have hev_ := f191.ev k
 have hnat_ := fun g_ => f191.nat k (R := Res env) g_
 exact rdC
theorem f191.fnok : FnOK Try.prog 191 := fn_ok Try.func191 (by kernel_rfl) rfl
def f157i.w {R : Type} : Bool → (Res env → Option R) → Option R := fun t45 K => K ⟨.v (.c (.s (.bool t45))), [[], [], []]⟩
theorem f157i.wn (x : Bool) : ∃ res, ∀ {R : Type} (K : Res env → Option R), f157i.w x K = K res := by
 exact ⟨_, fun _ => rfl⟩
def f157i.hdG (G_ : ByteArray → Bool → Int → Int → (List S66) → Bool → Int → Option Bool) (ps_ : List (P2 env)) : Cl env :=
 gC Cl.no ps_ fun p_ ps_ => qG Cl.no p_ fun cs_ => dS Cl.no cs_ fun s1 cs_ => dB Cl.no cs_ fun b2 cs_ => dI Cl.no cs_ fun a3 cs_ => dI Cl.no cs_ fun a4 cs_ => dM Cl.no 66 cs_ fun xs5 cs_ => gE Cl.no cs_ <| pB Cl.no ps_ fun b6 ps_ => pI Cl.no ps_ fun a7 ps_ => gE Cl.no ps_ <| { α := Bool, o := G_ s1 b2 a3 a4 xs5 b6 a7, w := f157i.w, nat := fun x _ => f157i.wn x }
def f157i.eG (G_ : ByteArray → Bool → Int → Int → (List S66) → Bool → Int → Option Bool) : Entry env := ⟨fun ps => f157i.hdG G_ (coer [[.no, .no, .no, .no, .rd 66], [.no], [.no]] ps), [], []⟩
theorem f157i.none_ : SoundC env Try.prog 157 (f157i.eG (fun _ _ _ _ _ _ _ => none)).F := by
 refine soundC_coer (F := f157i.hdG (fun _ _ _ _ _ _ _ => none)) ?_ [[.no, .no, .no, .no, .rd 66], [.no], [.no]]
 intro ps_
 show GoodC _ _ _ ps_ (f157i.hdG (fun _ _ _ _ _ _ _ => none) ps_)
 unfold f157i.hdG
 exact rdC
theorem f157.fnok : FnOK Try.prog 157 := fn_ok Try.func157 (by kernel_rfl) rfl
def f157i.l4.step {R : Type} (g157 : ByteArray → Bool → Int → Int → (List S66) → Bool → Int → Option Bool) (k : Nat) (rec_ : Int → Int → ByteArray → Bool → Int → Int → (List S66) → Option R) (ret : (Bool ⊕ (Unit)) → Option R) (a9 a10 : Int) (s11 : ByteArray) (b12 : Bool) (a13 a14 : Int) (xs15 : List S66) : Option R :=
 if (decide (a10 < ((List.length xs15) : Int))) = true then
 if 0 ≤ a10 then
 if a10 < ((List.length xs15 : Nat) : Int) then
 (f191 k (List.getD xs15 (Int.toNat a10) (⟨ByteArray.empty, false, 0, 0, []⟩ : S66)).f0 s11).bind fun t16 => if (!t16) = false then
 if (decide ((((ByteArray.size (List.getD xs15 (Int.toNat a10) (⟨ByteArray.empty, false, 0, 0, []⟩ : S66)).f0) : Nat) : Int) = (((ByteArray.size s11) : Nat) : Int))) = false then
 if (decide (a10 = 1)) = true then
 if 0 < ((List.length xs15 : Nat) : Int) then
 if 0 ≤ (((ByteArray.size s11) : Nat) : Int) then
 if (((ByteArray.size s11) : Nat) : Int) < ((ByteArray.size (List.getD xs15 0 (⟨ByteArray.empty, false, 0, 0, []⟩ : S66)).f0 : Nat) : Int) then
 if 0 ≤ (((ByteArray.size s11) : Nat) : Int) then
 if (((ByteArray.size s11) : Nat) : Int) < ((ByteArray.size (List.getD xs15 (Int.toNat a10) (⟨ByteArray.empty, false, 0, 0, []⟩ : S66)).f0 : Nat) : Int) then
 if (decide ((bt (List.getD xs15 0 (⟨ByteArray.empty, false, 0, 0, []⟩ : S66)).f0 (((ByteArray.size s11) : Nat) : Int)) ≥ (bt (List.getD xs15 (Int.toNat a10) (⟨ByteArray.empty, false, 0, 0, []⟩ : S66)).f0 (((ByteArray.size s11) : Nat) : Int)))) = false then
 (g157 (List.getD xs15 (Int.toNat a10) (⟨ByteArray.empty, false, 0, 0, []⟩ : S66)).f0 (List.getD xs15 (Int.toNat a10) (⟨ByteArray.empty, false, 0, 0, []⟩ : S66)).f1 (List.getD xs15 (Int.toNat a10) (⟨ByteArray.empty, false, 0, 0, []⟩ : S66)).f2 (List.getD xs15 (Int.toNat a10) (⟨ByteArray.empty, false, 0, 0, []⟩ : S66)).f3 (List.getD xs15 (Int.toNat a10) (⟨ByteArray.empty, false, 0, 0, []⟩ : S66)).f4 false (IntKind.i64.wrap (a9 + 1))).bind fun t17 => if (!t17) = true then
 ret (.inl false)
 else
 rec_ a9 (IntKind.i64.wrap (a10 + 1)) s11 b12 a13 a14 xs15
 else
 ret (.inl false)
 else none
 else none
 else none
 else none
 else none
 else
 (g157 (List.getD xs15 (Int.toNat a10) (⟨ByteArray.empty, false, 0, 0, []⟩ : S66)).f0 (List.getD xs15 (Int.toNat a10) (⟨ByteArray.empty, false, 0, 0, []⟩ : S66)).f1 (List.getD xs15 (Int.toNat a10) (⟨ByteArray.empty, false, 0, 0, []⟩ : S66)).f2 (List.getD xs15 (Int.toNat a10) (⟨ByteArray.empty, false, 0, 0, []⟩ : S66)).f3 (List.getD xs15 (Int.toNat a10) (⟨ByteArray.empty, false, 0, 0, []⟩ : S66)).f4 false (IntKind.i64.wrap (a9 + 1))).bind fun t18 => if (!t18) = true then
 ret (.inl false)
 else
 rec_ a9 (IntKind.i64.wrap (a10 + 1)) s11 b12 a13 a14 xs15
 else
 ret (.inl false)
 else
 ret (.inl false)
 else none
 else none
 else
 ret (.inr ())
def f157i.l4 (g157 : ByteArray → Bool → Int → Int → (List S66) → Bool → Int → Option Bool) (k : Nat) : Nat → Int → Int → ByteArray → Bool → Int → Int → (List S66) → Option (Bool ⊕ (Unit))
 | 0, _, _, _, _, _, _, _ => none
 | j + 1, a9, a10, s11, b12, a13, a14, xs15 => f157i.l4.step g157 k (fun a9 a10 s11 b12 a13 a14 xs15 => f157i.l4 g157 k j a9 a10 s11 b12 a13 a14 xs15) some a9 a10 s11 b12 a13 a14 xs15
def f157i.l4.w {R : Type} : (Bool ⊕ (Unit)) → (Exit → St env → Option R) → Option R := fun x K => Sum.elim (fun t43 => K .ret ⟨fullT [6] 0 122 [.v (.c (.s (.bool t43)))], [], 1923⟩) (fun t44 => K (.exit 0) ⟨fullT [] 0 122 [], [], 1923⟩) x
def f157i.l4.st (a9 a10 : Int) (s11 : ByteArray) (b12 : Bool) (a13 a14 : Int) (xs15 : List S66) : St env := ⟨fullT [2, 3, 7] 0 122 [.v (.c (.s (.int .i64 a9))), .v (.c (.bp 3 0)), .v (.c (.s (.int .i64 a10)))], [(3, .box [.s (.string s11), .s (.bool b12), .s (.int .i64 a13), .s (.int .i64 a14), .imm 66 xs15])], 963⟩
def f157i.l4.hd (g157 : ByteArray → Bool → Int → Int → (List S66) → Bool → Int → Option Bool) (k : Nat) (ts_ : List (AV env)) (mm_ : Mem env) (n_ : Nat) : LCl env :=
 gTs Ln [2, 3, 7] 122 ts_ fun l_ => tI Ln l_ fun a9 l_ => tP Ln 3 l_ fun l_ => tI Ln l_ fun a10 l_ => gE Ln l_ <| mBox Ln 3 mm_ fun c_ m_ => cS Ln c_ fun s11 c_ => cB Ln c_ fun b12 c_ => cI Ln c_ fun a13 c_ => cI Ln c_ fun a14 c_ => cM Ln 66 c_ fun xs15 c_ => gE Ln c_ <| gE Ln m_ <| gN Ln 963 n_ { α := Bool ⊕ (Unit), o := f157i.l4 g157 k k a9 a10 s11 b12 a13 a14 xs15, w := f157i.l4.w }
def f157i.step {R : Type} (g157 : ByteArray → Bool → Int → Int → (List S66) → Bool → Int → Option Bool) (k : Nat) (ret : Bool → Option R) (s1 : ByteArray) (b2 : Bool) (a3 a4 : Int) (xs5 : List S66) (b6 : Bool) (a7 : Int) : Option R :=
 if (decide (a7 > 128)) = false then
 (f87 k s1 a3 a4).bind fun t8 => if (!t8) = false then
 if (!b2) = true then
 if (decide (a3 ≠ 0)) = false then
 if (decide (a4 ≠ 0)) = false then
 if (decide (((List.length xs5) : Int) > 2)) = false then
 if b6 = true then
 if (decide (ByteArray.toList s1 ≠ ByteArray.toList (⟨#[]⟩ : ByteArray))) = false then
 if (!b6) = true then
 if (!b2) = true then
 if (decide (((List.length xs5) : Int) < 2)) = true then
 ret false
 else
 (f157i.l4 g157 k k a7 0 s1 b2 a3 a4 xs5).bind (Sum.elim (fun t19 => ret t19) (fun t20 => ret true))
 else
 (f157i.l4 g157 k k a7 0 s1 b2 a3 a4 xs5).bind (Sum.elim (fun t21 => ret t21) (fun t22 => ret true))
 else
 (f157i.l4 g157 k k a7 0 s1 b2 a3 a4 xs5).bind (Sum.elim (fun t23 => ret t23) (fun t24 => ret true))
 else
 ret false
 else
 if (!b6) = true then
 if (!b2) = true then
 if (decide (((List.length xs5) : Int) < 2)) = true then
 ret false
 else
 (f157i.l4 g157 k k a7 0 s1 b2 a3 a4 xs5).bind (Sum.elim (fun t25 => ret t25) (fun t26 => ret true))
 else
 (f157i.l4 g157 k k a7 0 s1 b2 a3 a4 xs5).bind (Sum.elim (fun t27 => ret t27) (fun t28 => ret true))
 else
 (f157i.l4 g157 k k a7 0 s1 b2 a3 a4 xs5).bind (Sum.elim (fun t29 => ret t29) (fun t30 => ret true))
 else
 ret false
 else
 ret false
 else
 ret false
 else
 if (decide (((List.length xs5) : Int) > 2)) = false then
 if b6 = true then
 if (decide (ByteArray.toList s1 ≠ ByteArray.toList (⟨#[]⟩ : ByteArray))) = false then
 if (!b6) = true then
 if (!b2) = true then
 if (decide (((List.length xs5) : Int) < 2)) = true then
 ret false
 else
 (f157i.l4 g157 k k a7 0 s1 b2 a3 a4 xs5).bind (Sum.elim (fun t31 => ret t31) (fun t32 => ret true))
 else
 (f157i.l4 g157 k k a7 0 s1 b2 a3 a4 xs5).bind (Sum.elim (fun t33 => ret t33) (fun t34 => ret true))
 else
 (f157i.l4 g157 k k a7 0 s1 b2 a3 a4 xs5).bind (Sum.elim (fun t35 => ret t35) (fun t36 => ret true))
 else
 ret false
 else
 if (!b6) = true then
 if (!b2) = true then
 if (decide (((List.length xs5) : Int) < 2)) = true then
 ret false
 else
 (f157i.l4 g157 k k a7 0 s1 b2 a3 a4 xs5).bind (Sum.elim (fun t37 => ret t37) (fun t38 => ret true))
 else
 (f157i.l4 g157 k k a7 0 s1 b2 a3 a4 xs5).bind (Sum.elim (fun t39 => ret t39) (fun t40 => ret true))
 else
 (f157i.l4 g157 k k a7 0 s1 b2 a3 a4 xs5).bind (Sum.elim (fun t41 => ret t41) (fun t42 => ret true))
 else
 ret false
 else
 ret false
 else
 ret false
def f157i (g157 : ByteArray → Bool → Int → Int → (List S66) → Bool → Int → Option Bool) (k : Nat) (s1 : ByteArray) (b2 : Bool) (a3 a4 : Int) (xs5 : List S66) (b6 : Bool) (a7 : Int) : Option Bool := f157i.step g157 k some s1 b2 a3 a4 xs5 b6 a7
def f157i.hd (g157 : ByteArray → Bool → Int → Int → (List S66) → Bool → Int → Option Bool) (k : Nat) (ps_ : List (P2 env)) : Cl env := f157i.hdG (f157i g157 k) ps_
def f157i.e (g157 : ByteArray → Bool → Int → Int → (List S66) → Bool → Int → Option Bool) (k : Nat) : Entry env := f157i.eG (f157i g157 k)
def f157i.X (g157 : ByteArray → Bool → Int → Int → (List S66) → Bool → Int → Option Bool) (k : Nat) : Ctx env := { X0 with C := lookE [(87, f87.e k), (157, f157i.eG g157), (191, f191.e k)], L := lookE [(4, fun S => f157i.l4.hd g157 k S.ts S.m S.n)], keep := lookD [(4, [2, 3, 7])], keepX := lookD [(4, [6])], span := lookN [(4, 960)] }
theorem f157i.l4.nat {R : Type} (g157 : ByteArray → Bool → Int → Int → (List S66) → Bool → Int → Option Bool) (k : Nat) (rec_) (g : _ → Option R) (a9 a10 s11 b12 a13 a14 xs15) : (f157i.l4.step g157 k rec_ some a9 a10 s11 b12 a13 a14 xs15).bind g = f157i.l4.step g157 k (fun a9 a10 s11 b12 a13 a14 xs15 => (rec_ a9 a10 s11 b12 a13 a14 xs15).bind g) g a9 a10 s11 b12 a13 a14 xs15 := by
 simp only [f157i.l4.step, bind_ite, bind_sum, oA, oS, oN]
theorem f157i.l4.good (g157 : ByteArray → Bool → Int → Int → (List S66) → Bool → Int → Option Bool) (k : Nat) (a9 a10 s11 b12 a13 a14 xs15) : GoodL (f157i.X g157 k) (nthC 0 (loopsOf (bodyOf Try.f157))) (f157i.l4.st a9 a10 s11 b12 a13 a14 xs15) { α := _, o := f157i.l4 g157 k k a9 a10 s11 b12 a13 a14 xs15, w := f157i.l4.w } :=
 loop_good (ι := Int × Int × ByteArray × Bool × Int × Int × (List S66)) (α := (Bool ⊕ (Unit))) (fun i => f157i.l4.st i.1 i.2.1 i.2.2.1 i.2.2.2.1 i.2.2.2.2.1 i.2.2.2.2.2.1 i.2.2.2.2.2.2) (fun j i => f157i.l4 g157 k j i.1 i.2.1 i.2.2.1 i.2.2.2.1 i.2.2.2.2.1 i.2.2.2.2.2.1 i.2.2.2.2.2.2) f157i.l4.w (fun rec_ ret i => f157i.l4.step g157 k (fun a9 a10 s11 b12 a13 a14 xs15 => rec_ (a9, a10, s11, b12, a13, a14, xs15)) ret i.1 i.2.1 i.2.2.1 i.2.2.2.1 i.2.2.2.2.1 i.2.2.2.2.2.1 i.2.2.2.2.2.2)
  (fun _ => rfl) (fun _ _ => rfl) (fun rec_ g i => f157i.l4.nat g157 k _ g i.1 i.2.1 i.2.2.1 i.2.2.2.1 i.2.2.2.2.1 i.2.2.2.2.2.1 i.2.2.2.2.2.2) (fun {R} i0 i rec_ K => by kernel_rfl) k (a9, a10, s11, b12, a13, a14, xs15)
theorem f157i.l4.all (g157 : ByteArray → Bool → Int → Int → (List S66) → Bool → Int → Option Bool) (k : Nat) (S : St env) : GoodL (f157i.X g157 k) (nthC 0 (loopsOf (bodyOf Try.f157))) S (f157i.l4.hd g157 k S.ts S.m S.n) := by
 obtain ⟨ts_, m_, n_⟩ := S
 show GoodL _ _ _ (f157i.l4.hd g157 k ts_ m_ n_)
 unfold f157i.l4.hd
 have hg_ := f157i.l4.good g157 k
 exact rdL
theorem f157i.nat {R : Type} (g157 : ByteArray → Bool → Int → Int → (List S66) → Bool → Int → Option Bool) (k : Nat) (g : _ → Option R) (s1 b2 a3 a4 xs5 b6 a7) : f157i.step g157 k g s1 b2 a3 a4 xs5 b6 a7 = (f157i g157 k s1 b2 a3 a4 xs5 b6 a7).bind g := by
 simp only [f157i, f157i.step, bind_ite, bind_sum, oA, oS, oN]
theorem f157i.ev (g157 : ByteArray → Bool → Int → Int → (List S66) → Bool → Int → Option Bool) (k : Nat) (s1 : ByteArray) (b2 : Bool) (a3 a4 : Int) (xs5 : List S66) (b6 : Bool) (a7 : Int) : evF (f157i.X g157 k) (bodyOf Try.f157) Try.f157.ntmps Try.f157.results.toList [.g [.s (.string s1), .s (.bool b2), .s (.int .i64 a3), .s (.int .i64 a4), .sl 66 xs5], .v (.c (.s (.bool b6))), .v (.c (.s (.int .i64 a7)))] = f157i.step g157 k (fun x => f157i.w x some) s1 b2 a3 a4 xs5 b6 a7 := by kernel_rfl
theorem f157i.hok (g157 : ByteArray → Bool → Int → Int → (List S66) → Bool → Int → Option Bool) (k : Nat) : HOK (f157i.X g157 k) (bodyOf Try.f157) where
 l := allP_mem (by exact ⟨ls_of (h0 := fun S => f157i.l4.hd g157 k S.ts S.m S.n) (by kernel_rfl) (f157i.l4.all g157 k), trivial⟩)
 j := allP_mem (by exact trivial)
 q := allP_mem (by exact trivial)
theorem f157i.sound0 (g157 : ByteArray → Bool → Int → Int → (List S66) → Bool → Int → Option Bool) (hg_ : SoundC env Try.prog 157 (f157i.eG g157).F) (k : Nat) : SoundC env Try.prog 157 (f157i.hd g157 k) := by
 intro ps_
 show GoodC _ _ _ ps_ (f157i.hd g157 k ps_)
 unfold f157i.hd f157i.hdG
 have hF_ := fun_sound envOK (cs_sound _ (by exact ⟨⟨f87.sound k, f87.fnok⟩, ⟨hg_, f157.fnok⟩, ⟨f191.sound k, f191.fnok⟩, trivial⟩)) (f157i.hok g157 k) Try.func157 rfl
 have hev_ := f157i.ev g157 k
 have hnat_ := fun g_ => f157i.nat g157 k (R := Res env) g_
 exact rdC
theorem f157i.sound (g157 : ByteArray → Bool → Int → Int → (List S66) → Bool → Int → Option Bool) (hg_ : SoundC env Try.prog 157 (f157i.eG g157).F) (k : Nat) : SoundC env Try.prog 157 (f157i.e g157 k).F := soundC_coer (f157i.sound0 g157 hg_ k) [[.no, .no, .no, .no, .rd 66], [.no], [.no]]
def f157i.r (k : Nat) : Nat → ByteArray → Bool → Int → Int → (List S66) → Bool → Int → Option Bool
 | 0 => fun _ _ _ _ _ _ _ => none
 | j + 1 => fun s1 b2 a3 a4 xs5 b6 a7 => f157i (f157i.r k j) k s1 b2 a3 a4 xs5 b6 a7
theorem f157i.all_ (k : Nat) : ∀ j, SoundC env Try.prog 157 (f157i.eG (f157i.r k j)).F
 | 0 => f157i.none_
 | j + 1 => f157i.sound (f157i.r k j) (f157i.all_ k j) k
def f157 (k : Nat) (s1 : ByteArray) (b2 : Bool) (a3 a4 : Int) (xs5 : List S66) (b6 : Bool) (a7 : Int) : Option Bool := f157i.r k k s1 b2 a3 a4 xs5 b6 a7
def f157.e (k : Nat) : Entry env := f157i.eG (f157 k)
theorem f157.sound (k : Nat) : SoundC env Try.prog 157 (f157.e k).F := f157i.all_ k k
def f162.step {R : Type} (k : Nat) (ret : Int → Option R) (b1 : Bool) (a2 : Int) : Option R :=
 if b1 = true then
 ret a2
 else
 ret 0
def f162 (k : Nat) (b1 : Bool) (a2 : Int) := f162.step k some b1 a2
def f162.w {R : Type} : Int → (Res env → Option R) → Option R := fun t3 K => K ⟨.v (.c (.s (.int .i64 t3))), [[], []]⟩
theorem f162.wn (x : Int) : ∃ res, ∀ {R : Type} (K : Res env → Option R), f162.w x K = K res := by
 exact ⟨_, fun _ => rfl⟩
def f162.hd (k : Nat) (ps_ : List (P2 env)) : Cl env :=
 pB Cl.no ps_ fun b1 ps_ => pI Cl.no ps_ fun a2 ps_ => gE Cl.no ps_ <| { α := Int, o := f162 k b1 a2, w := f162.w, nat := fun x _ => f162.wn x }
def f162.e (k : Nat) : Entry env := ⟨f162.hd k, [], []⟩
def f162.X (k : Nat) : Ctx env := X0
theorem f162.nat {R : Type} (k : Nat) (g : _ → Option R) (b1 a2) : f162.step k g b1 a2 = (f162 k b1 a2).bind g := by
 simp only [f162, f162.step, bind_ite, bind_sum, oA, oS, oN]
theorem f162.ev (k : Nat) (b1 : Bool) (a2 : Int) : evF (f162.X k) (bodyOf Try.f162) Try.f162.ntmps Try.f162.results.toList [.v (.c (.s (.bool b1))), .v (.c (.s (.int .i64 a2)))] = f162.step k (fun x => f162.w x some) b1 a2 := by kernel_rfl
theorem f162.hok (k : Nat) : HOK (f162.X k) (bodyOf Try.f162) where
 l := allP_mem (by exact trivial)
 j := allP_mem (by exact trivial)
 q := allP_mem (by exact trivial)
theorem f162.sound (k : Nat) : SoundC env Try.prog 162 ((f162.e k).F) := by
 intro ps_
 show GoodC _ _ _ ps_ (f162.hd k ps_)
 unfold f162.hd
 have hF_ := fun_sound envOK (cs_sound _ (by exact trivial)) (f162.hok k) Try.func162 rfl
 have hev_ := f162.ev k
 have hnat_ := fun g_ => f162.nat k (R := Res env) g_
 exact rdC
theorem f162.fnok : FnOK Try.prog 162 := fn_ok Try.func162 (by kernel_rfl) rfl
def f89i.w {R : Type} : Int → (Res env → Option R) → Option R := fun t17 K => K ⟨.v (.c (.s (.int .i64 t17))), [[]]⟩
theorem f89i.wn (x : Int) : ∃ res, ∀ {R : Type} (K : Res env → Option R), f89i.w x K = K res := by
 exact ⟨_, fun _ => rfl⟩
def f89i.hdG (G_ : ByteArray → Bool → Int → Int → (List S66) → Option Int) (ps_ : List (P2 env)) : Cl env :=
 gC Cl.no ps_ fun p_ ps_ => qG Cl.no p_ fun cs_ => dS Cl.no cs_ fun s1 cs_ => dB Cl.no cs_ fun b2 cs_ => dI Cl.no cs_ fun a3 cs_ => dI Cl.no cs_ fun a4 cs_ => dM Cl.no 66 cs_ fun xs5 cs_ => gE Cl.no cs_ <| gE Cl.no ps_ <| { α := Int, o := G_ s1 b2 a3 a4 xs5, w := f89i.w, nat := fun x _ => f89i.wn x }
def f89i.eG (G_ : ByteArray → Bool → Int → Int → (List S66) → Option Int) : Entry env := ⟨fun ps => f89i.hdG G_ (coer [[.no, .no, .no, .no, .rd 66]] ps), [], []⟩
theorem f89i.none_ : SoundC env Try.prog 89 (f89i.eG (fun _ _ _ _ _ => none)).F := by
 refine soundC_coer (F := f89i.hdG (fun _ _ _ _ _ => none)) ?_ [[.no, .no, .no, .no, .rd 66]]
 intro ps_
 show GoodC _ _ _ ps_ (f89i.hdG (fun _ _ _ _ _ => none) ps_)
 unfold f89i.hdG
 exact rdC
theorem f89.fnok : FnOK Try.prog 89 := fn_ok Try.func89 (by kernel_rfl) rfl
def f89i.l3.step {R : Type} (g89 : ByteArray → Bool → Int → Int → (List S66) → Option Int) (k : Nat) (rec_ : Int → Int → ByteArray → Bool → Int → Int → (List S66) → Option R) (ret : Int → Option R) (a7 a8 : Int) (s9 : ByteArray) (b10 : Bool) (a11 a12 : Int) (xs13 : List S66) : Option R :=
 if (decide (a8 < ((List.length xs13) : Int))) = true then
 if 0 ≤ a8 then
 if a8 < ((List.length xs13 : Nat) : Int) then
 (g89 (List.getD xs13 (Int.toNat a8) (⟨ByteArray.empty, false, 0, 0, []⟩ : S66)).f0 (List.getD xs13 (Int.toNat a8) (⟨ByteArray.empty, false, 0, 0, []⟩ : S66)).f1 (List.getD xs13 (Int.toNat a8) (⟨ByteArray.empty, false, 0, 0, []⟩ : S66)).f2 (List.getD xs13 (Int.toNat a8) (⟨ByteArray.empty, false, 0, 0, []⟩ : S66)).f3 (List.getD xs13 (Int.toNat a8) (⟨ByteArray.empty, false, 0, 0, []⟩ : S66)).f4).bind fun t14 => rec_ (IntKind.i64.wrap (a7 + t14)) (IntKind.i64.wrap (a8 + 1)) s9 b10 a11 a12 xs13
 else none
 else none
 else
 ret a7
def f89i.l3 (g89 : ByteArray → Bool → Int → Int → (List S66) → Option Int) (k : Nat) : Nat → Int → Int → ByteArray → Bool → Int → Int → (List S66) → Option Int
 | 0, _, _, _, _, _, _, _ => none
 | j + 1, a7, a8, s9, b10, a11, a12, xs13 => f89i.l3.step g89 k (fun a7 a8 s9 b10 a11 a12 xs13 => f89i.l3 g89 k j a7 a8 s9 b10 a11 a12 xs13) some a7 a8 s9 b10 a11 a12 xs13
def f89i.l3.w {R : Type} : Int → (Exit → St env → Option R) → Option R := fun t16 K => K (.exit 0) ⟨fullT [3] 0 24 [.v (.c (.s (.int .i64 t16)))], [], 385⟩
def f89i.l3.st (a7 a8 : Int) (s9 : ByteArray) (b10 : Bool) (a11 a12 : Int) (xs13 : List S66) : St env := ⟨fullT [1, 3, 4] 0 24 [.v (.c (.bp 1 0)), .v (.c (.s (.int .i64 a7))), .v (.c (.s (.int .i64 a8)))], [(1, .box [.s (.string s9), .s (.bool b10), .s (.int .i64 a11), .s (.int .i64 a12), .imm 66 xs13])], 113⟩
def f89i.l3.hd (g89 : ByteArray → Bool → Int → Int → (List S66) → Option Int) (k : Nat) (ts_ : List (AV env)) (mm_ : Mem env) (n_ : Nat) : LCl env :=
 gTs Ln [1, 3, 4] 24 ts_ fun l_ => tP Ln 1 l_ fun l_ => tI Ln l_ fun a7 l_ => tI Ln l_ fun a8 l_ => gE Ln l_ <| mBox Ln 1 mm_ fun c_ m_ => cS Ln c_ fun s9 c_ => cB Ln c_ fun b10 c_ => cI Ln c_ fun a11 c_ => cI Ln c_ fun a12 c_ => cM Ln 66 c_ fun xs13 c_ => gE Ln c_ <| gE Ln m_ <| gN Ln 113 n_ { α := Int, o := f89i.l3 g89 k k a7 a8 s9 b10 a11 a12 xs13, w := f89i.l3.w }
def f89i.step {R : Type} (g89 : ByteArray → Bool → Int → Int → (List S66) → Option Int) (k : Nat) (ret : Int → Option R) (s1 : ByteArray) (b2 : Bool) (a3 a4 : Int) (xs5 : List S66) : Option R :=
 (f162 k b2 1).bind fun t6 => (f89i.l3 g89 k k t6 0 s1 b2 a3 a4 xs5).bind fun t15 => ret t15
def f89i (g89 : ByteArray → Bool → Int → Int → (List S66) → Option Int) (k : Nat) (s1 : ByteArray) (b2 : Bool) (a3 a4 : Int) (xs5 : List S66) : Option Int := f89i.step g89 k some s1 b2 a3 a4 xs5
def f89i.hd (g89 : ByteArray → Bool → Int → Int → (List S66) → Option Int) (k : Nat) (ps_ : List (P2 env)) : Cl env := f89i.hdG (f89i g89 k) ps_
def f89i.e (g89 : ByteArray → Bool → Int → Int → (List S66) → Option Int) (k : Nat) : Entry env := f89i.eG (f89i g89 k)
def f89i.X (g89 : ByteArray → Bool → Int → Int → (List S66) → Option Int) (k : Nat) : Ctx env := { X0 with C := lookE [(89, f89i.eG g89), (162, f162.e k)], L := lookE [(3, fun S => f89i.l3.hd g89 k S.ts S.m S.n)], keep := lookD [(3, [1, 3, 4])], keepX := lookD [(3, [3])], span := lookN [(3, 272)] }
theorem f89i.l3.nat {R : Type} (g89 : ByteArray → Bool → Int → Int → (List S66) → Option Int) (k : Nat) (rec_) (g : _ → Option R) (a7 a8 s9 b10 a11 a12 xs13) : (f89i.l3.step g89 k rec_ some a7 a8 s9 b10 a11 a12 xs13).bind g = f89i.l3.step g89 k (fun a7 a8 s9 b10 a11 a12 xs13 => (rec_ a7 a8 s9 b10 a11 a12 xs13).bind g) g a7 a8 s9 b10 a11 a12 xs13 := by
 simp only [f89i.l3.step, bind_ite, bind_sum, oA, oS, oN]
theorem f89i.l3.good (g89 : ByteArray → Bool → Int → Int → (List S66) → Option Int) (k : Nat) (a7 a8 s9 b10 a11 a12 xs13) : GoodL (f89i.X g89 k) (nthC 0 (loopsOf (bodyOf Try.f89))) (f89i.l3.st a7 a8 s9 b10 a11 a12 xs13) { α := _, o := f89i.l3 g89 k k a7 a8 s9 b10 a11 a12 xs13, w := f89i.l3.w } :=
 loop_good (ι := Int × Int × ByteArray × Bool × Int × Int × (List S66)) (α := Int) (fun i => f89i.l3.st i.1 i.2.1 i.2.2.1 i.2.2.2.1 i.2.2.2.2.1 i.2.2.2.2.2.1 i.2.2.2.2.2.2) (fun j i => f89i.l3 g89 k j i.1 i.2.1 i.2.2.1 i.2.2.2.1 i.2.2.2.2.1 i.2.2.2.2.2.1 i.2.2.2.2.2.2) f89i.l3.w (fun rec_ ret i => f89i.l3.step g89 k (fun a7 a8 s9 b10 a11 a12 xs13 => rec_ (a7, a8, s9, b10, a11, a12, xs13)) ret i.1 i.2.1 i.2.2.1 i.2.2.2.1 i.2.2.2.2.1 i.2.2.2.2.2.1 i.2.2.2.2.2.2)
  (fun _ => rfl) (fun _ _ => rfl) (fun rec_ g i => f89i.l3.nat g89 k _ g i.1 i.2.1 i.2.2.1 i.2.2.2.1 i.2.2.2.2.1 i.2.2.2.2.2.1 i.2.2.2.2.2.2) (fun {R} i0 i rec_ K => by kernel_rfl) k (a7, a8, s9, b10, a11, a12, xs13)
theorem f89i.l3.all (g89 : ByteArray → Bool → Int → Int → (List S66) → Option Int) (k : Nat) (S : St env) : GoodL (f89i.X g89 k) (nthC 0 (loopsOf (bodyOf Try.f89))) S (f89i.l3.hd g89 k S.ts S.m S.n) := by
 obtain ⟨ts_, m_, n_⟩ := S
 show GoodL _ _ _ (f89i.l3.hd g89 k ts_ m_ n_)
 unfold f89i.l3.hd
 have hg_ := f89i.l3.good g89 k
 exact rdL
theorem f89i.nat {R : Type} (g89 : ByteArray → Bool → Int → Int → (List S66) → Option Int) (k : Nat) (g : _ → Option R) (s1 b2 a3 a4 xs5) : f89i.step g89 k g s1 b2 a3 a4 xs5 = (f89i g89 k s1 b2 a3 a4 xs5).bind g := by
 simp only [f89i, f89i.step, bind_ite, bind_sum, oA, oS, oN]
theorem f89i.ev (g89 : ByteArray → Bool → Int → Int → (List S66) → Option Int) (k : Nat) (s1 : ByteArray) (b2 : Bool) (a3 a4 : Int) (xs5 : List S66) : evF (f89i.X g89 k) (bodyOf Try.f89) Try.f89.ntmps Try.f89.results.toList [.g [.s (.string s1), .s (.bool b2), .s (.int .i64 a3), .s (.int .i64 a4), .sl 66 xs5]] = f89i.step g89 k (fun x => f89i.w x some) s1 b2 a3 a4 xs5 := by kernel_rfl
theorem f89i.hok (g89 : ByteArray → Bool → Int → Int → (List S66) → Option Int) (k : Nat) : HOK (f89i.X g89 k) (bodyOf Try.f89) where
 l := allP_mem (by exact ⟨ls_of (h0 := fun S => f89i.l3.hd g89 k S.ts S.m S.n) (by kernel_rfl) (f89i.l3.all g89 k), trivial⟩)
 j := allP_mem (by exact trivial)
 q := allP_mem (by exact trivial)
theorem f89i.sound0 (g89 : ByteArray → Bool → Int → Int → (List S66) → Option Int) (hg_ : SoundC env Try.prog 89 (f89i.eG g89).F) (k : Nat) : SoundC env Try.prog 89 (f89i.hd g89 k) := by
 intro ps_
 show GoodC _ _ _ ps_ (f89i.hd g89 k ps_)
 unfold f89i.hd f89i.hdG
 have hF_ := fun_sound envOK (cs_sound _ (by exact ⟨⟨hg_, f89.fnok⟩, ⟨f162.sound k, f162.fnok⟩, trivial⟩)) (f89i.hok g89 k) Try.func89 rfl
 have hev_ := f89i.ev g89 k
 have hnat_ := fun g_ => f89i.nat g89 k (R := Res env) g_
 exact rdC
theorem f89i.sound (g89 : ByteArray → Bool → Int → Int → (List S66) → Option Int) (hg_ : SoundC env Try.prog 89 (f89i.eG g89).F) (k : Nat) : SoundC env Try.prog 89 (f89i.e g89 k).F := soundC_coer (f89i.sound0 g89 hg_ k) [[.no, .no, .no, .no, .rd 66]]
def f89i.r (k : Nat) : Nat → ByteArray → Bool → Int → Int → (List S66) → Option Int
 | 0 => fun _ _ _ _ _ => none
 | j + 1 => fun s1 b2 a3 a4 xs5 => f89i (f89i.r k j) k s1 b2 a3 a4 xs5
theorem f89i.all_ (k : Nat) : ∀ j, SoundC env Try.prog 89 (f89i.eG (f89i.r k j)).F
 | 0 => f89i.none_
 | j + 1 => f89i.sound (f89i.r k j) (f89i.all_ k j) k
def f89 (k : Nat) (s1 : ByteArray) (b2 : Bool) (a3 a4 : Int) (xs5 : List S66) : Option Int := f89i.r k k s1 b2 a3 a4 xs5
def f89.e (k : Nat) : Entry env := f89i.eG (f89 k)
theorem f89.sound (k : Nat) : SoundC env Try.prog 89 (f89.e k).F := f89i.all_ k k
def f86.step {R : Type} (k : Nat) (ret : Bool → Option R) (s1 : ByteArray) (b2 : Bool) (a3 a4 : Int) (xs5 : List S66) : Option R :=
 (f157 k s1 b2 a3 a4 xs5 true 0).bind fun t6 => if t6 = true then
 (f89 k s1 b2 a3 a4 xs5).bind fun t7 => ret (decide (t7 ≤ 60))
 else
 ret false
def f86 (k : Nat) (s1 : ByteArray) (b2 : Bool) (a3 a4 : Int) (xs5 : List S66) := f86.step k some s1 b2 a3 a4 xs5
def f86.w {R : Type} : Bool → (Res env → Option R) → Option R := fun t8 K => K ⟨.v (.c (.s (.bool t8))), [[]]⟩
theorem f86.wn (x : Bool) : ∃ res, ∀ {R : Type} (K : Res env → Option R), f86.w x K = K res := by
 exact ⟨_, fun _ => rfl⟩
def f86.hd (k : Nat) (ps_ : List (P2 env)) : Cl env :=
 gC Cl.no ps_ fun p_ ps_ => qG Cl.no p_ fun cs_ => dS Cl.no cs_ fun s1 cs_ => dB Cl.no cs_ fun b2 cs_ => dI Cl.no cs_ fun a3 cs_ => dI Cl.no cs_ fun a4 cs_ => dM Cl.no 66 cs_ fun xs5 cs_ => gE Cl.no cs_ <| gE Cl.no ps_ <| { α := Bool, o := f86 k s1 b2 a3 a4 xs5, w := f86.w, nat := fun x _ => f86.wn x }
def f86.e (k : Nat) : Entry env := ⟨fun ps => f86.hd k (coer [[.no, .no, .no, .no, .rd 66]] ps), [], []⟩
def f86.X (k : Nat) : Ctx env := { X0 with C := lookE [(89, f89.e k), (157, f157.e k)] }
theorem f86.nat {R : Type} (k : Nat) (g : _ → Option R) (s1 b2 a3 a4 xs5) : f86.step k g s1 b2 a3 a4 xs5 = (f86 k s1 b2 a3 a4 xs5).bind g := by
 simp only [f86, f86.step, bind_ite, bind_sum, oA, oS, oN]
theorem f86.ev (k : Nat) (s1 : ByteArray) (b2 : Bool) (a3 a4 : Int) (xs5 : List S66) : evF (f86.X k) (bodyOf Try.f86) Try.f86.ntmps Try.f86.results.toList [.g [.s (.string s1), .s (.bool b2), .s (.int .i64 a3), .s (.int .i64 a4), .sl 66 xs5]] = f86.step k (fun x => f86.w x some) s1 b2 a3 a4 xs5 := by kernel_rfl
theorem f86.hok (k : Nat) : HOK (f86.X k) (bodyOf Try.f86) where
 l := allP_mem (by exact trivial)
 j := allP_mem (by exact trivial)
 q := allP_mem (by exact trivial)
theorem f86.sound0 (k : Nat) : SoundC env Try.prog 86 (f86.hd k) := by
 intro ps_
 show GoodC _ _ _ ps_ (f86.hd k ps_)
 unfold f86.hd
 have hF_ := fun_sound envOK (cs_sound _ (by exact ⟨⟨f89.sound k, f89.fnok⟩, ⟨f157.sound k, f157.fnok⟩, trivial⟩)) (f86.hok k) Try.func86 rfl
 have hev_ := f86.ev k
 have hnat_ := fun g_ => f86.nat k (R := Res env) g_
 exact rdC
theorem f86.sound (k : Nat) : SoundC env Try.prog 86 (f86.e k).F := soundC_coer (f86.sound0 k) [[.no, .no, .no, .no, .rd 66]]
theorem f86.fnok : FnOK Try.prog 86 := fn_ok Try.func86 (by kernel_rfl) rfl
def f172i.w {R : Type} : Bool → (Res env → Option R) → Option R := fun t19 K => K ⟨.v (.c (.s (.bool t19))), [[], []]⟩
theorem f172i.wn (x : Bool) : ∃ res, ∀ {R : Type} (K : Res env → Option R), f172i.w x K = K res := by
 exact ⟨_, fun _ => rfl⟩
def f172i.hdG (G_ : ByteArray → Bool → Int → Int → (List S66) → Int → Option Bool) (ps_ : List (P2 env)) : Cl env :=
 gC Cl.no ps_ fun p_ ps_ => qG Cl.no p_ fun cs_ => dS Cl.no cs_ fun s1 cs_ => dB Cl.no cs_ fun b2 cs_ => dI Cl.no cs_ fun a3 cs_ => dI Cl.no cs_ fun a4 cs_ => dM Cl.no 66 cs_ fun xs5 cs_ => gE Cl.no cs_ <| pI Cl.no ps_ fun a6 ps_ => gE Cl.no ps_ <| { α := Bool, o := G_ s1 b2 a3 a4 xs5 a6, w := f172i.w, nat := fun x _ => f172i.wn x }
def f172i.eG (G_ : ByteArray → Bool → Int → Int → (List S66) → Int → Option Bool) : Entry env := ⟨fun ps => f172i.hdG G_ (coer [[.no, .no, .no, .no, .rd 66], [.no]] ps), [], []⟩
theorem f172i.none_ : SoundC env Try.prog 172 (f172i.eG (fun _ _ _ _ _ _ => none)).F := by
 refine soundC_coer (F := f172i.hdG (fun _ _ _ _ _ _ => none)) ?_ [[.no, .no, .no, .no, .rd 66], [.no]]
 intro ps_
 show GoodC _ _ _ ps_ (f172i.hdG (fun _ _ _ _ _ _ => none) ps_)
 unfold f172i.hdG
 exact rdC
theorem f172.fnok : FnOK Try.prog 172 := fn_ok Try.func172 (by kernel_rfl) rfl
def f172i.l4.step {R : Type} (g172 : ByteArray → Bool → Int → Int → (List S66) → Int → Option Bool) (k : Nat) (rec_ : Int → Int → ByteArray → Bool → Int → Int → (List S66) → Option R) (ret : (Bool ⊕ (Unit)) → Option R) (a7 a8 : Int) (s9 : ByteArray) (b10 : Bool) (a11 a12 : Int) (xs13 : List S66) : Option R :=
 if (decide (a8 < ((List.length xs13) : Int))) = true then
 if 0 ≤ a8 then
 if a8 < ((List.length xs13 : Nat) : Int) then
 (g172 (List.getD xs13 (Int.toNat a8) (⟨ByteArray.empty, false, 0, 0, []⟩ : S66)).f0 (List.getD xs13 (Int.toNat a8) (⟨ByteArray.empty, false, 0, 0, []⟩ : S66)).f1 (List.getD xs13 (Int.toNat a8) (⟨ByteArray.empty, false, 0, 0, []⟩ : S66)).f2 (List.getD xs13 (Int.toNat a8) (⟨ByteArray.empty, false, 0, 0, []⟩ : S66)).f3 (List.getD xs13 (Int.toNat a8) (⟨ByteArray.empty, false, 0, 0, []⟩ : S66)).f4 a7).bind fun t14 => if (!t14) = true then
 ret (.inl false)
 else
 rec_ a7 (IntKind.i64.wrap (a8 + 1)) s9 b10 a11 a12 xs13
 else none
 else none
 else
 ret (.inr ())
def f172i.l4 (g172 : ByteArray → Bool → Int → Int → (List S66) → Int → Option Bool) (k : Nat) : Nat → Int → Int → ByteArray → Bool → Int → Int → (List S66) → Option (Bool ⊕ (Unit))
 | 0, _, _, _, _, _, _, _ => none
 | j + 1, a7, a8, s9, b10, a11, a12, xs13 => f172i.l4.step g172 k (fun a7 a8 s9 b10 a11 a12 xs13 => f172i.l4 g172 k j a7 a8 s9 b10 a11 a12 xs13) some a7 a8 s9 b10 a11 a12 xs13
def f172i.l4.w {R : Type} : (Bool ⊕ (Unit)) → (Exit → St env → Option R) → Option R := fun x K => Sum.elim (fun t17 => K .ret ⟨fullT [4] 0 26 [.v (.c (.s (.bool t17)))], [], 402⟩) (fun t18 => K (.exit 0) ⟨fullT [] 0 26 [], [], 402⟩) x
def f172i.l4.st (a7 a8 : Int) (s9 : ByteArray) (b10 : Bool) (a11 a12 : Int) (xs13 : List S66) : St env := ⟨fullT [1, 2, 5] 0 26 [.v (.c (.s (.int .i64 a7))), .v (.c (.bp 2 0)), .v (.c (.s (.int .i64 a8)))], [(2, .box [.s (.string s9), .s (.bool b10), .s (.int .i64 a11), .s (.int .i64 a12), .imm 66 xs13])], 130⟩
def f172i.l4.hd (g172 : ByteArray → Bool → Int → Int → (List S66) → Int → Option Bool) (k : Nat) (ts_ : List (AV env)) (mm_ : Mem env) (n_ : Nat) : LCl env :=
 gTs Ln [1, 2, 5] 26 ts_ fun l_ => tI Ln l_ fun a7 l_ => tP Ln 2 l_ fun l_ => tI Ln l_ fun a8 l_ => gE Ln l_ <| mBox Ln 2 mm_ fun c_ m_ => cS Ln c_ fun s9 c_ => cB Ln c_ fun b10 c_ => cI Ln c_ fun a11 c_ => cI Ln c_ fun a12 c_ => cM Ln 66 c_ fun xs13 c_ => gE Ln c_ <| gE Ln m_ <| gN Ln 130 n_ { α := Bool ⊕ (Unit), o := f172i.l4 g172 k k a7 a8 s9 b10 a11 a12 xs13, w := f172i.l4.w }
def f172i.step {R : Type} (g172 : ByteArray → Bool → Int → Int → (List S66) → Int → Option Bool) (k : Nat) (ret : Bool → Option R) (s1 : ByteArray) (b2 : Bool) (a3 a4 : Int) (xs5 : List S66) (a6 : Int) : Option R :=
 if (decide ((((ByteArray.size s1) : Nat) : Int) > a6)) = true then
 ret false
 else
 (f172i.l4 g172 k k a6 0 s1 b2 a3 a4 xs5).bind (Sum.elim (fun t15 => ret t15) (fun t16 => ret true))
def f172i (g172 : ByteArray → Bool → Int → Int → (List S66) → Int → Option Bool) (k : Nat) (s1 : ByteArray) (b2 : Bool) (a3 a4 : Int) (xs5 : List S66) (a6 : Int) : Option Bool := f172i.step g172 k some s1 b2 a3 a4 xs5 a6
def f172i.hd (g172 : ByteArray → Bool → Int → Int → (List S66) → Int → Option Bool) (k : Nat) (ps_ : List (P2 env)) : Cl env := f172i.hdG (f172i g172 k) ps_
def f172i.e (g172 : ByteArray → Bool → Int → Int → (List S66) → Int → Option Bool) (k : Nat) : Entry env := f172i.eG (f172i g172 k)
def f172i.X (g172 : ByteArray → Bool → Int → Int → (List S66) → Int → Option Bool) (k : Nat) : Ctx env := { X0 with C := lookE [(172, f172i.eG g172)], L := lookE [(4, fun S => f172i.l4.hd g172 k S.ts S.m S.n)], keep := lookD [(4, [1, 2, 5])], keepX := lookD [(4, [4])], span := lookN [(4, 272)] }
theorem f172i.l4.nat {R : Type} (g172 : ByteArray → Bool → Int → Int → (List S66) → Int → Option Bool) (k : Nat) (rec_) (g : _ → Option R) (a7 a8 s9 b10 a11 a12 xs13) : (f172i.l4.step g172 k rec_ some a7 a8 s9 b10 a11 a12 xs13).bind g = f172i.l4.step g172 k (fun a7 a8 s9 b10 a11 a12 xs13 => (rec_ a7 a8 s9 b10 a11 a12 xs13).bind g) g a7 a8 s9 b10 a11 a12 xs13 := by
 simp only [f172i.l4.step, bind_ite, bind_sum, oA, oS, oN]
theorem f172i.l4.good (g172 : ByteArray → Bool → Int → Int → (List S66) → Int → Option Bool) (k : Nat) (a7 a8 s9 b10 a11 a12 xs13) : GoodL (f172i.X g172 k) (nthC 0 (loopsOf (bodyOf Try.f172))) (f172i.l4.st a7 a8 s9 b10 a11 a12 xs13) { α := _, o := f172i.l4 g172 k k a7 a8 s9 b10 a11 a12 xs13, w := f172i.l4.w } :=
 loop_good (ι := Int × Int × ByteArray × Bool × Int × Int × (List S66)) (α := (Bool ⊕ (Unit))) (fun i => f172i.l4.st i.1 i.2.1 i.2.2.1 i.2.2.2.1 i.2.2.2.2.1 i.2.2.2.2.2.1 i.2.2.2.2.2.2) (fun j i => f172i.l4 g172 k j i.1 i.2.1 i.2.2.1 i.2.2.2.1 i.2.2.2.2.1 i.2.2.2.2.2.1 i.2.2.2.2.2.2) f172i.l4.w (fun rec_ ret i => f172i.l4.step g172 k (fun a7 a8 s9 b10 a11 a12 xs13 => rec_ (a7, a8, s9, b10, a11, a12, xs13)) ret i.1 i.2.1 i.2.2.1 i.2.2.2.1 i.2.2.2.2.1 i.2.2.2.2.2.1 i.2.2.2.2.2.2)
  (fun _ => rfl) (fun _ _ => rfl) (fun rec_ g i => f172i.l4.nat g172 k _ g i.1 i.2.1 i.2.2.1 i.2.2.2.1 i.2.2.2.2.1 i.2.2.2.2.2.1 i.2.2.2.2.2.2) (fun {R} i0 i rec_ K => by kernel_rfl) k (a7, a8, s9, b10, a11, a12, xs13)
theorem f172i.l4.all (g172 : ByteArray → Bool → Int → Int → (List S66) → Int → Option Bool) (k : Nat) (S : St env) : GoodL (f172i.X g172 k) (nthC 0 (loopsOf (bodyOf Try.f172))) S (f172i.l4.hd g172 k S.ts S.m S.n) := by
 obtain ⟨ts_, m_, n_⟩ := S
 show GoodL _ _ _ (f172i.l4.hd g172 k ts_ m_ n_)
 unfold f172i.l4.hd
 have hg_ := f172i.l4.good g172 k
 exact rdL
theorem f172i.nat {R : Type} (g172 : ByteArray → Bool → Int → Int → (List S66) → Int → Option Bool) (k : Nat) (g : _ → Option R) (s1 b2 a3 a4 xs5 a6) : f172i.step g172 k g s1 b2 a3 a4 xs5 a6 = (f172i g172 k s1 b2 a3 a4 xs5 a6).bind g := by
 simp only [f172i, f172i.step, bind_ite, bind_sum, oA, oS, oN]
theorem f172i.ev (g172 : ByteArray → Bool → Int → Int → (List S66) → Int → Option Bool) (k : Nat) (s1 : ByteArray) (b2 : Bool) (a3 a4 : Int) (xs5 : List S66) (a6 : Int) : evF (f172i.X g172 k) (bodyOf Try.f172) Try.f172.ntmps Try.f172.results.toList [.g [.s (.string s1), .s (.bool b2), .s (.int .i64 a3), .s (.int .i64 a4), .sl 66 xs5], .v (.c (.s (.int .i64 a6)))] = f172i.step g172 k (fun x => f172i.w x some) s1 b2 a3 a4 xs5 a6 := by kernel_rfl
theorem f172i.hok (g172 : ByteArray → Bool → Int → Int → (List S66) → Int → Option Bool) (k : Nat) : HOK (f172i.X g172 k) (bodyOf Try.f172) where
 l := allP_mem (by exact ⟨ls_of (h0 := fun S => f172i.l4.hd g172 k S.ts S.m S.n) (by kernel_rfl) (f172i.l4.all g172 k), trivial⟩)
 j := allP_mem (by exact trivial)
 q := allP_mem (by exact trivial)
theorem f172i.sound0 (g172 : ByteArray → Bool → Int → Int → (List S66) → Int → Option Bool) (hg_ : SoundC env Try.prog 172 (f172i.eG g172).F) (k : Nat) : SoundC env Try.prog 172 (f172i.hd g172 k) := by
 intro ps_
 show GoodC _ _ _ ps_ (f172i.hd g172 k ps_)
 unfold f172i.hd f172i.hdG
 have hF_ := fun_sound envOK (cs_sound _ (by exact ⟨⟨hg_, f172.fnok⟩, trivial⟩)) (f172i.hok g172 k) Try.func172 rfl
 have hev_ := f172i.ev g172 k
 have hnat_ := fun g_ => f172i.nat g172 k (R := Res env) g_
 exact rdC
theorem f172i.sound (g172 : ByteArray → Bool → Int → Int → (List S66) → Int → Option Bool) (hg_ : SoundC env Try.prog 172 (f172i.eG g172).F) (k : Nat) : SoundC env Try.prog 172 (f172i.e g172 k).F := soundC_coer (f172i.sound0 g172 hg_ k) [[.no, .no, .no, .no, .rd 66], [.no]]
def f172i.r (k : Nat) : Nat → ByteArray → Bool → Int → Int → (List S66) → Int → Option Bool
 | 0 => fun _ _ _ _ _ _ => none
 | j + 1 => fun s1 b2 a3 a4 xs5 a6 => f172i (f172i.r k j) k s1 b2 a3 a4 xs5 a6
theorem f172i.all_ (k : Nat) : ∀ j, SoundC env Try.prog 172 (f172i.eG (f172i.r k j)).F
 | 0 => f172i.none_
 | j + 1 => f172i.sound (f172i.r k j) (f172i.all_ k j) k
def f172 (k : Nat) (s1 : ByteArray) (b2 : Bool) (a3 a4 : Int) (xs5 : List S66) (a6 : Int) : Option Bool := f172i.r k k s1 b2 a3 a4 xs5 a6
def f172.e (k : Nat) : Entry env := f172i.eG (f172 k)
theorem f172.sound (k : Nat) : SoundC env Try.prog 172 (f172.e k).F := f172i.all_ k k
def f110.l4.step {R : Type} (k : Nat) (rec_ : Int → ByteArray → Bool → Int → Int → (List S66) → ByteArray → Bool → Int → Int → (List S66) → (List ByteArray) → (List Int) → Option R) (ret : ((Bool × ByteArray × Bool × Int × Int × (List S66) × ByteArray × Bool × Int × Int × (List S66) × (List ByteArray) × (List Int)) ⊕ (ByteArray × Bool × Int × Int × (List S66) × ByteArray × Bool × Int × Int × (List S66) × (List ByteArray) × (List Int))) → Option R) (a17 : Int) (s18 : ByteArray) (b19 : Bool) (a20 a21 : Int) (xs22 : List S66) (s23 : ByteArray) (b24 : Bool) (a25 a26 : Int) (xs27 : List S66) (xs28 : List ByteArray) (xs29 : List Int) : Option R :=
 if (decide (a17 < ((List.length xs29) : Int))) = true then
 if 0 ≤ a17 then
 if a17 < ((List.length xs29 : Nat) : Int) then
 (f61 k (List.getD xs29 (Int.toNat a17) 0) 576 1520).bind fun t30 => if (!t30) = true then
 ret (.inl (false, s18, b19, a20, a21, xs22, s23, b24, a25, a26, xs27, xs28, xs29))
 else
 rec_ (IntKind.i64.wrap (a17 + 1)) s18 b19 a20 a21 xs22 s23 b24 a25 a26 xs27 xs28 xs29
 else none
 else none
 else
 ret (.inr (s18, b19, a20, a21, xs22, s23, b24, a25, a26, xs27, xs28, xs29))
def f110.l4 (k : Nat) : Nat → Int → ByteArray → Bool → Int → Int → (List S66) → ByteArray → Bool → Int → Int → (List S66) → (List ByteArray) → (List Int) → Option ((Bool × ByteArray × Bool × Int × Int × (List S66) × ByteArray × Bool × Int × Int × (List S66) × (List ByteArray) × (List Int)) ⊕ (ByteArray × Bool × Int × Int × (List S66) × ByteArray × Bool × Int × Int × (List S66) × (List ByteArray) × (List Int)))
 | 0, _, _, _, _, _, _, _, _, _, _, _, _, _ => none
 | j + 1, a17, s18, b19, a20, a21, xs22, s23, b24, a25, a26, xs27, xs28, xs29 => f110.l4.step k (fun a17 s18 b19 a20 a21 xs22 s23 b24 a25 a26 xs27 xs28 xs29 => f110.l4 k j a17 s18 b19 a20 a21 xs22 s23 b24 a25 a26 xs27 xs28 xs29) some a17 s18 b19 a20 a21 xs22 s23 b24 a25 a26 xs27 xs28 xs29
def f110.l4.w {R : Type} : ((Bool × ByteArray × Bool × Int × Int × (List S66) × ByteArray × Bool × Int × Int × (List S66) × (List ByteArray) × (List Int)) ⊕ (ByteArray × Bool × Int × Int × (List S66) × ByteArray × Bool × Int × Int × (List S66) × (List ByteArray) × (List Int))) → (Exit → St env → Option R) → Option R := fun x K => Sum.elim (fun t49 => let t49_a := t49.2.2.2.2.2.2.2.2; K .ret ⟨fullT [1, 2] 0 97 [.v (.c (.bp 1 0)), .v (.c (.s (.bool t49.1)))], [(1, .box [.s (.string t49.2.1), .s (.bool t49.2.2.1), .s (.int .i64 t49.2.2.2.1), .s (.int .i64 t49.2.2.2.2.1), .imm 66 t49.2.2.2.2.2.1, .s (.string t49.2.2.2.2.2.2.1), .s (.bool t49.2.2.2.2.2.2.2.1), .s (.int .i64 t49_a.1), .s (.int .i64 t49_a.2.1), .imm 66 t49_a.2.2.1, .imm 9 t49_a.2.2.2.1, .imm 3 t49_a.2.2.2.2])], 993⟩) (fun t50 => K (.exit 0) ⟨fullT [1] 0 97 [.v (.c (.bp 1 0))], [(1, .box [.s (.string t50.1), .s (.bool t50.2.1), .s (.int .i64 t50.2.2.1), .s (.int .i64 t50.2.2.2.1), .imm 66 t50.2.2.2.2.1, .s (.string t50.2.2.2.2.2.1), .s (.bool t50.2.2.2.2.2.2.1), .s (.int .i64 t50.2.2.2.2.2.2.2.1), .s (.int .i64 t50.2.2.2.2.2.2.2.2.1), .imm 66 t50.2.2.2.2.2.2.2.2.2.1, .imm 9 t50.2.2.2.2.2.2.2.2.2.2.1, .imm 3 t50.2.2.2.2.2.2.2.2.2.2.2])], 993⟩) x
def f110.l4.st (a17 : Int) (s18 : ByteArray) (b19 : Bool) (a20 a21 : Int) (xs22 : List S66) (s23 : ByteArray) (b24 : Bool) (a25 a26 : Int) (xs27 : List S66) (xs28 : List ByteArray) (xs29 : List Int) : St env := ⟨fullT [1, 3] 0 97 [.v (.c (.bp 1 0)), .v (.c (.s (.int .i64 a17)))], [(1, .box [.s (.string s18), .s (.bool b19), .s (.int .i64 a20), .s (.int .i64 a21), .imm 66 xs22, .s (.string s23), .s (.bool b24), .s (.int .i64 a25), .s (.int .i64 a26), .imm 66 xs27, .imm 9 xs28, .imm 3 xs29])], 737⟩
def f110.l10.step {R : Type} (k : Nat) (rec_ : Bool → Int → ByteArray → Bool → Int → Int → (List S66) → ByteArray → Bool → Int → Int → (List S66) → (List ByteArray) → (List Int) → Option R) (ret : ((Bool × Bool) ⊕ (Bool)) → Option R) (b33 : Bool) (a34 : Int) (s35 : ByteArray) (b36 : Bool) (a37 a38 : Int) (xs39 : List S66) (s40 : ByteArray) (b41 : Bool) (a42 a43 : Int) (xs44 : List S66) (xs45 : List ByteArray) (xs46 : List Int) : Option R :=
 if (decide (a34 < ((List.length xs45) : Int))) = true then
 if 0 ≤ a34 then
 if a34 < ((List.length xs45 : Nat) : Int) then
 if (decide ((((ByteArray.size (List.getD xs45 (Int.toNat a34) ByteArray.empty)) : Nat) : Int) ≠ 4)) = true then
 if 0 ≤ a34 then
 if a34 < ((List.length xs45 : Nat) : Int) then
 if (decide ((((ByteArray.size (List.getD xs45 (Int.toNat a34) ByteArray.empty)) : Nat) : Int) ≠ 16)) = true then
 ret (.inl (false, b33))
 else
 if b33 = false then
 if 0 ≤ a34 then
 if a34 < ((List.length xs45 : Nat) : Int) then
 rec_ (decide ((((ByteArray.size (List.getD xs45 (Int.toNat a34) ByteArray.empty)) : Nat) : Int) = 16)) (IntKind.i64.wrap (a34 + 1)) s35 b36 a37 a38 xs39 s40 b41 a42 a43 xs44 xs45 xs46
 else none
 else none
 else
 rec_ true (IntKind.i64.wrap (a34 + 1)) s35 b36 a37 a38 xs39 s40 b41 a42 a43 xs44 xs45 xs46
 else none
 else none
 else
 if b33 = false then
 if 0 ≤ a34 then
 if a34 < ((List.length xs45 : Nat) : Int) then
 rec_ (decide ((((ByteArray.size (List.getD xs45 (Int.toNat a34) ByteArray.empty)) : Nat) : Int) = 16)) (IntKind.i64.wrap (a34 + 1)) s35 b36 a37 a38 xs39 s40 b41 a42 a43 xs44 xs45 xs46
 else none
 else none
 else
 rec_ true (IntKind.i64.wrap (a34 + 1)) s35 b36 a37 a38 xs39 s40 b41 a42 a43 xs44 xs45 xs46
 else none
 else none
 else
 ret (.inr b33)
def f110.l10 (k : Nat) : Nat → Bool → Int → ByteArray → Bool → Int → Int → (List S66) → ByteArray → Bool → Int → Int → (List S66) → (List ByteArray) → (List Int) → Option ((Bool × Bool) ⊕ (Bool))
 | 0, _, _, _, _, _, _, _, _, _, _, _, _, _, _ => none
 | j + 1, b33, a34, s35, b36, a37, a38, xs39, s40, b41, a42, a43, xs44, xs45, xs46 => f110.l10.step k (fun b33 a34 s35 b36 a37 a38 xs39 s40 b41 a42 a43 xs44 xs45 xs46 => f110.l10 k j b33 a34 s35 b36 a37 a38 xs39 s40 b41 a42 a43 xs44 xs45 xs46) some b33 a34 s35 b36 a37 a38 xs39 s40 b41 a42 a43 xs44 xs45 xs46
def f110.l10.w {R : Type} : ((Bool × Bool) ⊕ (Bool)) → (Exit → St env → Option R) → Option R := fun x K => Sum.elim (fun t51 => K .ret ⟨fullT [2, 4] 0 97 [.v (.c (.s (.bool t51.1))), .v (.c (.s (.bool t51.2)))], [], 1601⟩) (fun t52 => K (.exit 2) ⟨fullT [4] 0 97 [.v (.c (.s (.bool t52)))], [], 1601⟩) x
def f110.l10.st (b33 : Bool) (a34 : Int) (s35 : ByteArray) (b36 : Bool) (a37 a38 : Int) (xs39 : List S66) (s40 : ByteArray) (b41 : Bool) (a42 a43 : Int) (xs44 : List S66) (xs45 : List ByteArray) (xs46 : List Int) : St env := ⟨fullT [1, 4, 5] 0 97 [.v (.c (.bp 1 0)), .v (.c (.s (.bool b33))), .v (.c (.s (.int .i64 a34)))], [(1, .box [.s (.string s35), .s (.bool b36), .s (.int .i64 a37), .s (.int .i64 a38), .imm 66 xs39, .s (.string s40), .s (.bool b41), .s (.int .i64 a42), .s (.int .i64 a43), .imm 66 xs44, .imm 9 xs45, .imm 3 xs46])], 1025⟩
def f110.l4.hd (k : Nat) (ts_ : List (AV env)) (mm_ : Mem env) (n_ : Nat) : LCl env :=
 gTs Ln [1, 3] 97 ts_ fun l_ => tP Ln 1 l_ fun l_ => tI Ln l_ fun a17 l_ => gE Ln l_ <| mBox Ln 1 mm_ fun c_ m_ => cS Ln c_ fun s18 c_ => cB Ln c_ fun b19 c_ => cI Ln c_ fun a20 c_ => cI Ln c_ fun a21 c_ => cM Ln 66 c_ fun xs22 c_ => cS Ln c_ fun s23 c_ => cB Ln c_ fun b24 c_ => cI Ln c_ fun a25 c_ => cI Ln c_ fun a26 c_ => cM Ln 66 c_ fun xs27 c_ => cM Ln 9 c_ fun xs28 c_ => cM Ln 3 c_ fun xs29 c_ => gE Ln c_ <| gE Ln m_ <| gN Ln 737 n_ { α := (Bool × ByteArray × Bool × Int × Int × (List S66) × ByteArray × Bool × Int × Int × (List S66) × (List ByteArray) × (List Int)) ⊕ (ByteArray × Bool × Int × Int × (List S66) × ByteArray × Bool × Int × Int × (List S66) × (List ByteArray) × (List Int)), o := f110.l4 k k a17 s18 b19 a20 a21 xs22 s23 b24 a25 a26 xs27 xs28 xs29, w := f110.l4.w }
def f110.l10.hd (k : Nat) (ts_ : List (AV env)) (mm_ : Mem env) (n_ : Nat) : LCl env :=
 gTs Ln [1, 4, 5] 97 ts_ fun l_ => tP Ln 1 l_ fun l_ => tB Ln l_ fun b33 l_ => tI Ln l_ fun a34 l_ => gE Ln l_ <| mBox Ln 1 mm_ fun c_ m_ => cS Ln c_ fun s35 c_ => cB Ln c_ fun b36 c_ => cI Ln c_ fun a37 c_ => cI Ln c_ fun a38 c_ => cM Ln 66 c_ fun xs39 c_ => cS Ln c_ fun s40 c_ => cB Ln c_ fun b41 c_ => cI Ln c_ fun a42 c_ => cI Ln c_ fun a43 c_ => cM Ln 66 c_ fun xs44 c_ => cM Ln 9 c_ fun xs45 c_ => cM Ln 3 c_ fun xs46 c_ => gE Ln c_ <| gE Ln m_ <| gN Ln 1025 n_ { α := (Bool × Bool) ⊕ (Bool), o := f110.l10 k k b33 a34 s35 b36 a37 a38 xs39 s40 b41 a42 a43 xs44 xs45 xs46, w := f110.l10.w }
def f110.step {R : Type} (k : Nat) (ret : Bool → Option R) (s1 : ByteArray) (b2 : Bool) (a3 a4 : Int) (xs5 : List S66) (s6 : ByteArray) (b7 : Bool) (a8 a9 : Int) (xs10 : List S66) (xs11 : List ByteArray) (xs12 : List Int) : Option R :=
 (f86 k s1 b2 a3 a4 xs5).bind fun t13 => if (!t13) = false then
 (f86 k s6 b7 a8 a9 xs10).bind fun t14 => if (!t14) = false then
 (f61 k ((List.length xs12) : Int) 1 6).bind fun t15 => if (!t15) = false then
 if (decide (((List.length xs11) : Int) = 0)) = false then
 if (decide (((List.length xs11) : Int) > 8)) = false then
 (f172 k s1 b2 a3 a4 xs5 32).bind fun t16 => if (!t16) = false then
 if 0 < ((List.length xs11 : Nat) : Int) then
 if (decide ((((ByteArray.size (List.getD xs11 0 ByteArray.empty)) : Nat) : Int) ≠ 4)) = true then
 ret false
 else
 (f110.l4 k k 0 s1 b2 a3 a4 xs5 s6 b7 a8 a9 xs10 xs11 xs12).bind (Sum.elim (fun t31 => ret t31.1) (fun t32 => (f110.l10 k k false 0 t32.1 t32.2.1 t32.2.2.1 t32.2.2.2.1 t32.2.2.2.2.1 t32.2.2.2.2.2.1 t32.2.2.2.2.2.2.1 t32.2.2.2.2.2.2.2.1 t32.2.2.2.2.2.2.2.2.1 t32.2.2.2.2.2.2.2.2.2.1 t32.2.2.2.2.2.2.2.2.2.2.1 t32.2.2.2.2.2.2.2.2.2.2.2).bind (Sum.elim (fun t47 => ret t47.1) (fun t48 => ret t48))))
 else none
 else
 ret false
 else
 ret false
 else
 ret false
 else
 ret false
 else
 ret false
 else
 ret false
def f110 (k : Nat) (s1 : ByteArray) (b2 : Bool) (a3 a4 : Int) (xs5 : List S66) (s6 : ByteArray) (b7 : Bool) (a8 a9 : Int) (xs10 : List S66) (xs11 : List ByteArray) (xs12 : List Int) := f110.step k some s1 b2 a3 a4 xs5 s6 b7 a8 a9 xs10 xs11 xs12
def f110.w {R : Type} : Bool → (Res env → Option R) → Option R := fun t53 K => K ⟨.v (.c (.s (.bool t53))), [[]]⟩
theorem f110.wn (x : Bool) : ∃ res, ∀ {R : Type} (K : Res env → Option R), f110.w x K = K res := by
 exact ⟨_, fun _ => rfl⟩
def f110.hd (k : Nat) (ps_ : List (P2 env)) : Cl env :=
 gC Cl.no ps_ fun p_ ps_ => qG Cl.no p_ fun cs_ => dS Cl.no cs_ fun s1 cs_ => dB Cl.no cs_ fun b2 cs_ => dI Cl.no cs_ fun a3 cs_ => dI Cl.no cs_ fun a4 cs_ => dM Cl.no 66 cs_ fun xs5 cs_ => dS Cl.no cs_ fun s6 cs_ => dB Cl.no cs_ fun b7 cs_ => dI Cl.no cs_ fun a8 cs_ => dI Cl.no cs_ fun a9 cs_ => dM Cl.no 66 cs_ fun xs10 cs_ => dM Cl.no 9 cs_ fun xs11 cs_ => dM Cl.no 3 cs_ fun xs12 cs_ => gE Cl.no cs_ <| gE Cl.no ps_ <| { α := Bool, o := f110 k s1 b2 a3 a4 xs5 s6 b7 a8 a9 xs10 xs11 xs12, w := f110.w, nat := fun x _ => f110.wn x }
def f110.e (k : Nat) : Entry env := ⟨fun ps => f110.hd k (coer [[.no, .no, .no, .no, .rd 66, .no, .no, .no, .no, .rd 66, .rd 9, .rd 3]] ps), [], []⟩
def f110.X (k : Nat) : Ctx env := { X0 with C := lookE [(61, f61.e k), (86, f86.e k), (172, f172.e k)], L := lookE [(4, fun S => f110.l4.hd k S.ts S.m S.n), (10, fun S => f110.l10.hd k S.ts S.m S.n)], keep := lookD [(4, [1, 3]), (10, [1, 4, 5])], keepX := lookD [(4, [1, 2]), (10, [2, 4])], span := lookN [(4, 256), (10, 576)] }
theorem f110.l4.nat {R : Type} (k : Nat) (rec_) (g : _ → Option R) (a17 s18 b19 a20 a21 xs22 s23 b24 a25 a26 xs27 xs28 xs29) : (f110.l4.step k rec_ some a17 s18 b19 a20 a21 xs22 s23 b24 a25 a26 xs27 xs28 xs29).bind g = f110.l4.step k (fun a17 s18 b19 a20 a21 xs22 s23 b24 a25 a26 xs27 xs28 xs29 => (rec_ a17 s18 b19 a20 a21 xs22 s23 b24 a25 a26 xs27 xs28 xs29).bind g) g a17 s18 b19 a20 a21 xs22 s23 b24 a25 a26 xs27 xs28 xs29 := by
 simp only [f110.l4.step, bind_ite, bind_sum, oA, oS, oN]
theorem f110.l4.good (k : Nat) (a17 s18 b19 a20 a21 xs22 s23 b24 a25 a26 xs27 xs28 xs29) : GoodL (f110.X k) (nthC 0 (loopsOf (bodyOf Try.f110))) (f110.l4.st a17 s18 b19 a20 a21 xs22 s23 b24 a25 a26 xs27 xs28 xs29) { α := _, o := f110.l4 k k a17 s18 b19 a20 a21 xs22 s23 b24 a25 a26 xs27 xs28 xs29, w := f110.l4.w } :=
 loop_good (ι := Int × ByteArray × Bool × Int × Int × (List S66) × ByteArray × Bool × Int × Int × (List S66) × (List ByteArray) × (List Int)) (α := ((Bool × ByteArray × Bool × Int × Int × (List S66) × ByteArray × Bool × Int × Int × (List S66) × (List ByteArray) × (List Int)) ⊕ (ByteArray × Bool × Int × Int × (List S66) × ByteArray × Bool × Int × Int × (List S66) × (List ByteArray) × (List Int)))) (fun i => let i_a := i.2.2.2.2.2.2.2.2; f110.l4.st i.1 i.2.1 i.2.2.1 i.2.2.2.1 i.2.2.2.2.1 i.2.2.2.2.2.1 i.2.2.2.2.2.2.1 i.2.2.2.2.2.2.2.1 i_a.1 i_a.2.1 i_a.2.2.1 i_a.2.2.2.1 i_a.2.2.2.2) (fun j i => let i_a := i.2.2.2.2.2.2.2.2; f110.l4 k j i.1 i.2.1 i.2.2.1 i.2.2.2.1 i.2.2.2.2.1 i.2.2.2.2.2.1 i.2.2.2.2.2.2.1 i.2.2.2.2.2.2.2.1 i_a.1 i_a.2.1 i_a.2.2.1 i_a.2.2.2.1 i_a.2.2.2.2) f110.l4.w (fun rec_ ret i => let i_a := i.2.2.2.2.2.2.2.2; f110.l4.step k (fun a17 s18 b19 a20 a21 xs22 s23 b24 a25 a26 xs27 xs28 xs29 => rec_ (a17, s18, b19, a20, a21, xs22, s23, b24, a25, a26, xs27, xs28, xs29)) ret i.1 i.2.1 i.2.2.1 i.2.2.2.1 i.2.2.2.2.1 i.2.2.2.2.2.1 i.2.2.2.2.2.2.1 i.2.2.2.2.2.2.2.1 i_a.1 i_a.2.1 i_a.2.2.1 i_a.2.2.2.1 i_a.2.2.2.2)
  (fun _ => rfl) (fun _ _ => rfl) (fun rec_ g i => let i_a := i.2.2.2.2.2.2.2.2; f110.l4.nat k _ g i.1 i.2.1 i.2.2.1 i.2.2.2.1 i.2.2.2.2.1 i.2.2.2.2.2.1 i.2.2.2.2.2.2.1 i.2.2.2.2.2.2.2.1 i_a.1 i_a.2.1 i_a.2.2.1 i_a.2.2.2.1 i_a.2.2.2.2) (fun {R} i0 i rec_ K => by kernel_rfl) k (a17, s18, b19, a20, a21, xs22, s23, b24, a25, a26, xs27, xs28, xs29)
theorem f110.l4.all (k : Nat) (S : St env) : GoodL (f110.X k) (nthC 0 (loopsOf (bodyOf Try.f110))) S (f110.l4.hd k S.ts S.m S.n) := by
 obtain ⟨ts_, m_, n_⟩ := S
 show GoodL _ _ _ (f110.l4.hd k ts_ m_ n_)
 unfold f110.l4.hd
 have hg_ := f110.l4.good k
 exact rdL
theorem f110.l10.nat {R : Type} (k : Nat) (rec_) (g : _ → Option R) (b33 a34 s35 b36 a37 a38 xs39 s40 b41 a42 a43 xs44 xs45 xs46) : (f110.l10.step k rec_ some b33 a34 s35 b36 a37 a38 xs39 s40 b41 a42 a43 xs44 xs45 xs46).bind g = f110.l10.step k (fun b33 a34 s35 b36 a37 a38 xs39 s40 b41 a42 a43 xs44 xs45 xs46 => (rec_ b33 a34 s35 b36 a37 a38 xs39 s40 b41 a42 a43 xs44 xs45 xs46).bind g) g b33 a34 s35 b36 a37 a38 xs39 s40 b41 a42 a43 xs44 xs45 xs46 := by
 simp only [f110.l10.step, bind_ite, bind_sum, oA, oS, oN]
theorem f110.l10.good (k : Nat) (b33 a34 s35 b36 a37 a38 xs39 s40 b41 a42 a43 xs44 xs45 xs46) : GoodL (f110.X k) (nthC 1 (loopsOf (bodyOf Try.f110))) (f110.l10.st b33 a34 s35 b36 a37 a38 xs39 s40 b41 a42 a43 xs44 xs45 xs46) { α := _, o := f110.l10 k k b33 a34 s35 b36 a37 a38 xs39 s40 b41 a42 a43 xs44 xs45 xs46, w := f110.l10.w } :=
 loop_good (ι := Bool × Int × ByteArray × Bool × Int × Int × (List S66) × ByteArray × Bool × Int × Int × (List S66) × (List ByteArray) × (List Int)) (α := ((Bool × Bool) ⊕ (Bool))) (fun i => let i_a := i.2.2.2.2.2.2.2.2; f110.l10.st i.1 i.2.1 i.2.2.1 i.2.2.2.1 i.2.2.2.2.1 i.2.2.2.2.2.1 i.2.2.2.2.2.2.1 i.2.2.2.2.2.2.2.1 i_a.1 i_a.2.1 i_a.2.2.1 i_a.2.2.2.1 i_a.2.2.2.2.1 i_a.2.2.2.2.2) (fun j i => let i_a := i.2.2.2.2.2.2.2.2; f110.l10 k j i.1 i.2.1 i.2.2.1 i.2.2.2.1 i.2.2.2.2.1 i.2.2.2.2.2.1 i.2.2.2.2.2.2.1 i.2.2.2.2.2.2.2.1 i_a.1 i_a.2.1 i_a.2.2.1 i_a.2.2.2.1 i_a.2.2.2.2.1 i_a.2.2.2.2.2) f110.l10.w (fun rec_ ret i => let i_a := i.2.2.2.2.2.2.2.2; f110.l10.step k (fun b33 a34 s35 b36 a37 a38 xs39 s40 b41 a42 a43 xs44 xs45 xs46 => rec_ (b33, a34, s35, b36, a37, a38, xs39, s40, b41, a42, a43, xs44, xs45, xs46)) ret i.1 i.2.1 i.2.2.1 i.2.2.2.1 i.2.2.2.2.1 i.2.2.2.2.2.1 i.2.2.2.2.2.2.1 i.2.2.2.2.2.2.2.1 i_a.1 i_a.2.1 i_a.2.2.1 i_a.2.2.2.1 i_a.2.2.2.2.1 i_a.2.2.2.2.2)
  (fun _ => rfl) (fun _ _ => rfl) (fun rec_ g i => let i_a := i.2.2.2.2.2.2.2.2; f110.l10.nat k _ g i.1 i.2.1 i.2.2.1 i.2.2.2.1 i.2.2.2.2.1 i.2.2.2.2.2.1 i.2.2.2.2.2.2.1 i.2.2.2.2.2.2.2.1 i_a.1 i_a.2.1 i_a.2.2.1 i_a.2.2.2.1 i_a.2.2.2.2.1 i_a.2.2.2.2.2) (fun {R} i0 i rec_ K => by kernel_rfl) k (b33, a34, s35, b36, a37, a38, xs39, s40, b41, a42, a43, xs44, xs45, xs46)
theorem f110.l10.all (k : Nat) (S : St env) : GoodL (f110.X k) (nthC 1 (loopsOf (bodyOf Try.f110))) S (f110.l10.hd k S.ts S.m S.n) := by
 obtain ⟨ts_, m_, n_⟩ := S
 show GoodL _ _ _ (f110.l10.hd k ts_ m_ n_)
 unfold f110.l10.hd
 have hg_ := f110.l10.good k
 exact rdL
theorem f110.nat {R : Type} (k : Nat) (g : _ → Option R) (s1 b2 a3 a4 xs5 s6 b7 a8 a9 xs10 xs11 xs12) : f110.step k g s1 b2 a3 a4 xs5 s6 b7 a8 a9 xs10 xs11 xs12 = (f110 k s1 b2 a3 a4 xs5 s6 b7 a8 a9 xs10 xs11 xs12).bind g := by
 simp only [f110, f110.step, bind_ite, bind_sum, oA, oS, oN]
theorem f110.ev (k : Nat) (s1 : ByteArray) (b2 : Bool) (a3 a4 : Int) (xs5 : List S66) (s6 : ByteArray) (b7 : Bool) (a8 a9 : Int) (xs10 : List S66) (xs11 : List ByteArray) (xs12 : List Int) : evF (f110.X k) (bodyOf Try.f110) Try.f110.ntmps Try.f110.results.toList [.g [.s (.string s1), .s (.bool b2), .s (.int .i64 a3), .s (.int .i64 a4), .sl 66 xs5, .s (.string s6), .s (.bool b7), .s (.int .i64 a8), .s (.int .i64 a9), .sl 66 xs10, .sl 9 xs11, .sl 3 xs12]] = f110.step k (fun x => f110.w x some) s1 b2 a3 a4 xs5 s6 b7 a8 a9 xs10 xs11 xs12 := by kernel_rfl
theorem f110.hok (k : Nat) : HOK (f110.X k) (bodyOf Try.f110) where
 l := allP_mem (by exact ⟨ls_of (h0 := fun S => f110.l4.hd k S.ts S.m S.n) (by kernel_rfl) (f110.l4.all k), ls_of (h0 := fun S => f110.l10.hd k S.ts S.m S.n) (by kernel_rfl) (f110.l10.all k), trivial⟩)
 j := allP_mem (by exact trivial)
 q := allP_mem (by exact trivial)
theorem f110.sound0 (k : Nat) : SoundC env Try.prog 110 (f110.hd k) := by
 intro ps_
 show GoodC _ _ _ ps_ (f110.hd k ps_)
 unfold f110.hd
 have hF_ := fun_sound envOK (cs_sound _ (by exact ⟨⟨f61.sound k, f61.fnok⟩, ⟨f86.sound k, f86.fnok⟩, ⟨f172.sound k, f172.fnok⟩, trivial⟩)) (f110.hok k) Try.func110 rfl
 have hev_ := f110.ev k
 have hnat_ := fun g_ => f110.nat k (R := Res env) g_
 exact rdC
theorem f110.sound (k : Nat) : SoundC env Try.prog 110 (f110.e k).F := soundC_coer (f110.sound0 k) [[.no, .no, .no, .no, .rd 66, .no, .no, .no, .no, .rd 66, .rd 9, .rd 3]]
theorem f110.fnok : FnOK Try.prog 110 := fn_ok Try.func110 (by kernel_rfl) rfl
def f60.step {R : Type} (k : Nat) (ret : Bool → Option R) (a1 : Int) (s2 s3 : ByteArray) (a4 a5 a6 a7 : Int) (b8 b9 : Bool) (xs10 : List Int) : Option R :=
 if (decide (((List.length xs10) : Int) > 1500)) = false then
 (f61 k a4 0 255).bind fun t11 => if (!t11) = false then
 (f61 k a5 0 255).bind fun t12 => if (!t12) = true then
 ret false
 else
 if (decide (a1 = 4)) = true then
 if (decide ((((ByteArray.size s2) : Nat) : Int) = 4)) = true then
 if (decide ((((ByteArray.size s3) : Nat) : Int) = 4)) = true then
 (f61 k a6 0 65535).bind fun t13 => if t13 = true then
 (f61 k a7 0 8191).bind fun t14 => if t14 = true then
 if b9 = true then
 if b8 = false then
 if (!(decide (a7 > 0))) = true then
 if (!b8) = false then
 if (decide ((Int.tmod ((List.length xs10) : Int) 8) = 0)) = true then
 if (decide (((List.length xs10) : Int) > 0)) = true then
 ret (decide ((IntKind.i64.wrap ((IntKind.i64.wrap (8 * a7)) + ((List.length xs10) : Int))) ≤ 65515))
 else
 ret false
 else
 ret false
 else
 ret (decide ((IntKind.i64.wrap ((IntKind.i64.wrap (8 * a7)) + ((List.length xs10) : Int))) ≤ 65515))
 else
 ret false
 else
 ret false
 else
 if (!b8) = false then
 if (decide ((Int.tmod ((List.length xs10) : Int) 8) = 0)) = true then
 if (decide (((List.length xs10) : Int) > 0)) = true then
 ret (decide ((IntKind.i64.wrap ((IntKind.i64.wrap (8 * a7)) + ((List.length xs10) : Int))) ≤ 65515))
 else
 ret false
 else
 ret false
 else
 ret (decide ((IntKind.i64.wrap ((IntKind.i64.wrap (8 * a7)) + ((List.length xs10) : Int))) ≤ 65515))
 else
 ret false
 else
 ret false
 else
 ret false
 else
 ret false
 else
 if (decide (a1 = 6)) = true then
 if (decide ((((ByteArray.size s2) : Nat) : Int) = 16)) = true then
 if (decide ((((ByteArray.size s3) : Nat) : Int) = 16)) = true then
 if (decide (a6 = 0)) = true then
 if (decide (a7 = 0)) = true then
 if (!b8) = true then
 ret (!b9)
 else
 ret false
 else
 ret false
 else
 ret false
 else
 ret false
 else
 ret false
 else
 ret false
 else
 ret false
 else
 ret false
def f60 (k : Nat) (a1 : Int) (s2 s3 : ByteArray) (a4 a5 a6 a7 : Int) (b8 b9 : Bool) (xs10 : List Int) := f60.step k some a1 s2 s3 a4 a5 a6 a7 b8 b9 xs10
def f60.w {R : Type} : Bool → (Res env → Option R) → Option R := fun t15 K => K ⟨.v (.c (.s (.bool t15))), [[]]⟩
theorem f60.wn (x : Bool) : ∃ res, ∀ {R : Type} (K : Res env → Option R), f60.w x K = K res := by
 exact ⟨_, fun _ => rfl⟩
def f60.hd (k : Nat) (ps_ : List (P2 env)) : Cl env :=
 gC Cl.no ps_ fun p_ ps_ => qG Cl.no p_ fun cs_ => dI Cl.no cs_ fun a1 cs_ => dS Cl.no cs_ fun s2 cs_ => dS Cl.no cs_ fun s3 cs_ => dI Cl.no cs_ fun a4 cs_ => dI Cl.no cs_ fun a5 cs_ => dI Cl.no cs_ fun a6 cs_ => dI Cl.no cs_ fun a7 cs_ => dB Cl.no cs_ fun b8 cs_ => dB Cl.no cs_ fun b9 cs_ => dM Cl.no 5 cs_ fun xs10 cs_ => gE Cl.no cs_ <| gE Cl.no ps_ <| { α := Bool, o := f60 k a1 s2 s3 a4 a5 a6 a7 b8 b9 xs10, w := f60.w, nat := fun x _ => f60.wn x }
def f60.e (k : Nat) : Entry env := ⟨fun ps => f60.hd k (coer [[.no, .no, .no, .no, .no, .no, .no, .no, .no, .rd 5]] ps), [], []⟩
def f60.X (k : Nat) : Ctx env := { X0 with C := lookE [(61, f61.e k)] }
theorem f60.nat {R : Type} (k : Nat) (g : _ → Option R) (a1 s2 s3 a4 a5 a6 a7 b8 b9 xs10) : f60.step k g a1 s2 s3 a4 a5 a6 a7 b8 b9 xs10 = (f60 k a1 s2 s3 a4 a5 a6 a7 b8 b9 xs10).bind g := by
 simp only [f60, f60.step, bind_ite, bind_sum, oA, oS, oN]
theorem f60.ev (k : Nat) (a1 : Int) (s2 s3 : ByteArray) (a4 a5 a6 a7 : Int) (b8 b9 : Bool) (xs10 : List Int) : evF (f60.X k) (bodyOf Try.f60) Try.f60.ntmps Try.f60.results.toList [.g [.s (.int .i64 a1), .s (.string s2), .s (.string s3), .s (.int .i64 a4), .s (.int .i64 a5), .s (.int .i64 a6), .s (.int .i64 a7), .s (.bool b8), .s (.bool b9), .sl 5 xs10]] = f60.step k (fun x => f60.w x some) a1 s2 s3 a4 a5 a6 a7 b8 b9 xs10 := by kernel_rfl
theorem f60.hok (k : Nat) : HOK (f60.X k) (bodyOf Try.f60) where
 l := allP_mem (by exact trivial)
 j := allP_mem (by exact trivial)
 q := allP_mem (by exact trivial)
theorem f60.sound0 (k : Nat) : SoundC env Try.prog 60 (f60.hd k) := by
 intro ps_
 show GoodC _ _ _ ps_ (f60.hd k ps_)
 unfold f60.hd
 have hF_ := fun_sound envOK (cs_sound _ (by exact ⟨⟨f61.sound k, f61.fnok⟩, trivial⟩)) (f60.hok k) Try.func60 rfl
 have hev_ := f60.ev k
 have hnat_ := fun g_ => f60.nat k (R := Res env) g_
 exact rdC
theorem f60.sound (k : Nat) : SoundC env Try.prog 60 (f60.e k).F := soundC_coer (f60.sound0 k) [[.no, .no, .no, .no, .no, .no, .no, .no, .no, .rd 5]]
theorem f60.fnok : FnOK Try.prog 60 := fn_ok Try.func60 (by kernel_rfl) rfl
def f111.step {R : Type} (k : Nat) (ret : ((List Int)) → Option R) (a1 : Int) : Option R :=
 ret ([(IntKind.u8.wrap (IntKind.i64.wrap (Int.tdiv a1 256))), (IntKind.u8.wrap (Int.tmod a1 256))] : List Int)
def f111 (k : Nat) (a1 : Int) := f111.step k some a1
def f111.w {R : Type} : ((List Int)) → (Res env → Option R) → Option R := fun t2 K => K ⟨.v (.c (.own true 5 t2)), [[]]⟩
theorem f111.wn (x : ((List Int))) : ∃ res, ∀ {R : Type} (K : Res env → Option R), f111.w x K = K res := by
 exact ⟨_, fun _ => rfl⟩
def f111.hd (k : Nat) (ps_ : List (P2 env)) : Cl env :=
 pI Cl.no ps_ fun a1 ps_ => gE Cl.no ps_ <| { α := (List Int), o := f111 k a1, w := f111.w, nat := fun x _ => f111.wn x }
def f111.e (k : Nat) : Entry env := ⟨f111.hd k, [], []⟩
def f111.X (k : Nat) : Ctx env := X0
theorem f111.nat {R : Type} (k : Nat) (g : _ → Option R) (a1) : f111.step k g a1 = (f111 k a1).bind g := by
 simp only [f111, f111.step, bind_ite, bind_sum, oA, oS, oN]
theorem f111.ev (k : Nat) (a1 : Int) : evF (f111.X k) (bodyOf Try.f111) Try.f111.ntmps Try.f111.results.toList [.v (.c (.s (.int .i64 a1)))] = f111.step k (fun x => f111.w x some) a1 := by kernel_rfl
theorem f111.hok (k : Nat) : HOK (f111.X k) (bodyOf Try.f111) where
 l := allP_mem (by exact trivial)
 j := allP_mem (by exact trivial)
 q := allP_mem (by exact trivial)
theorem f111.sound (k : Nat) : SoundC env Try.prog 111 ((f111.e k).F) := by
 intro ps_
 show GoodC _ _ _ ps_ (f111.hd k ps_)
 unfold f111.hd
 have hF_ := fun_sound envOK (cs_sound _ (by exact trivial)) (f111.hok k) Try.func111 rfl
 have hev_ := f111.ev k
 have hnat_ := fun g_ => f111.nat k (R := Res env) g_
 exact rdC
theorem f111.fnok : FnOK Try.prog 111 := fn_ok Try.func111 (by kernel_rfl) rfl
def f113.l3.step {R : Type} (k : Nat) (rec_ : (List Int) → Int → Int → Option R) (ret : Int → Option R) (xs2 : List Int) (a3 a4 : Int) : Option R :=
 if (decide (a4 < ((List.length xs2) : Int))) = true then
 if (decide ((Int.tmod a4 2) = 0)) = true then
 if 0 ≤ a4 then
 if a4 < ((List.length xs2 : Nat) : Int) then
 rec_ xs2 (IntKind.i64.wrap (a3 + (IntKind.i64.wrap ((IntKind.i64.wrap (List.getD xs2 (Int.toNat a4) 0)) * 256)))) (IntKind.i64.wrap (a4 + 1))
 else none
 else none
 else
 if 0 ≤ a4 then
 if a4 < ((List.length xs2 : Nat) : Int) then
 rec_ xs2 (IntKind.i64.wrap (a3 + (IntKind.i64.wrap (List.getD xs2 (Int.toNat a4) 0)))) (IntKind.i64.wrap (a4 + 1))
 else none
 else none
 else
 ret a3
def f113.l3 (k : Nat) : Nat → (List Int) → Int → Int → Option Int
 | 0, _, _, _ => none
 | j + 1, xs2, a3, a4 => f113.l3.step k (fun xs2 a3 a4 => f113.l3 k j xs2 a3 a4) some xs2 a3 a4
def f113.l3.w {R : Type} : Int → (Exit → St env → Option R) → Option R := fun t8 K => K (.exit 0) ⟨fullT [3] 0 38 [.v (.c (.s (.int .i64 t8)))], [], 353⟩
def f113.l3.st (xs2 : List Int) (a3 a4 : Int) : St env := ⟨fullT [0, 3, 4] 0 38 [.v (.c (.imm 5 xs2)), .v (.c (.s (.int .i64 a3))), .v (.c (.s (.int .i64 a4)))], [], 49⟩
def f113.l8.step {R : Type} (k : Nat) (rec_ : Int → Option R) (ret : Int → Option R) (a6 : Int) : Option R :=
 if (decide (a6 > 65535)) = true then
 rec_ (IntKind.i64.wrap ((Int.tmod a6 65536) + (IntKind.i64.wrap (Int.tdiv a6 65536))))
 else
 ret a6
def f113.l8 (k : Nat) : Nat → Int → Option Int
 | 0, _ => none
 | j + 1, a6 => f113.l8.step k (fun a6 => f113.l8 k j a6) some a6
def f113.l8.w {R : Type} : Int → (Exit → St env → Option R) → Option R := fun t9 K => K (.exit 2) ⟨fullT [3] 0 38 [.v (.c (.s (.int .i64 t9)))], [], 481⟩
def f113.l8.st (a6 : Int) : St env := ⟨fullT [3] 0 38 [.v (.c (.s (.int .i64 a6)))], [], 353⟩
def f113.l3.hd (k : Nat) (ts_ : List (AV env)) (mm_ : Mem env) (n_ : Nat) : LCl env :=
 gTs Ln [0, 3, 4] 38 ts_ fun l_ => tM Ln 5 l_ fun xs2 l_ => tI Ln l_ fun a3 l_ => tI Ln l_ fun a4 l_ => gE Ln l_ <| gE Ln mm_ <| gN Ln 49 n_ { α := Int, o := f113.l3 k k xs2 a3 a4, w := f113.l3.w }
def f113.l8.hd (k : Nat) (ts_ : List (AV env)) (mm_ : Mem env) (n_ : Nat) : LCl env :=
 gTs Ln [3] 38 ts_ fun l_ => tI Ln l_ fun a6 l_ => gE Ln l_ <| gE Ln mm_ <| gN Ln 353 n_ { α := Int, o := f113.l8 k k a6, w := f113.l8.w }
def f113.step {R : Type} (k : Nat) (ret : Int → Option R) (xs1 : List Int) : Option R :=
 (f113.l3 k k xs1 0 0).bind fun t5 => (f113.l8 k k t5).bind fun t7 => ret (IntKind.i64.wrap (65535 - t7))
def f113 (k : Nat) (xs1 : List Int) := f113.step k some xs1
def f113.w {R : Type} : Int → (Res env → Option R) → Option R := fun t10 K => K ⟨.v (.c (.s (.int .i64 t10))), [[]]⟩
theorem f113.wn (x : Int) : ∃ res, ∀ {R : Type} (K : Res env → Option R), f113.w x K = K res := by
 exact ⟨_, fun _ => rfl⟩
def f113.hd (k : Nat) (ps_ : List (P2 env)) : Cl env :=
 pM Cl.no 5 ps_ fun xs1 ps_ => gE Cl.no ps_ <| { α := Int, o := f113 k xs1, w := f113.w, nat := fun x _ => f113.wn x }
def f113.e (k : Nat) : Entry env := ⟨fun ps => f113.hd k (coer [[.rd 5]] ps), [], []⟩
def f113.X (k : Nat) : Ctx env := { X0 with L := lookE [(3, fun S => f113.l3.hd k S.ts S.m S.n), (8, fun S => f113.l8.hd k S.ts S.m S.n)], keep := lookD [(3, [0, 3, 4]), (8, [3])], keepX := lookD [(3, [3]), (8, [3])], span := lookN [(3, 304), (8, 128)] }
theorem f113.l3.nat {R : Type} (k : Nat) (rec_) (g : _ → Option R) (xs2 a3 a4) : (f113.l3.step k rec_ some xs2 a3 a4).bind g = f113.l3.step k (fun xs2 a3 a4 => (rec_ xs2 a3 a4).bind g) g xs2 a3 a4 := by
 simp only [f113.l3.step, bind_ite, bind_sum, oA, oS, oN]
theorem f113.l3.good (k : Nat) (xs2 a3 a4) : GoodL (f113.X k) (nthC 0 (loopsOf (bodyOf Try.f113))) (f113.l3.st xs2 a3 a4) { α := _, o := f113.l3 k k xs2 a3 a4, w := f113.l3.w } :=
 loop_good (ι := (List Int) × Int × Int) (α := Int) (fun i => f113.l3.st i.1 i.2.1 i.2.2) (fun j i => f113.l3 k j i.1 i.2.1 i.2.2) f113.l3.w (fun rec_ ret i => f113.l3.step k (fun xs2 a3 a4 => rec_ (xs2, a3, a4)) ret i.1 i.2.1 i.2.2)
  (fun _ => rfl) (fun _ _ => rfl) (fun rec_ g i => f113.l3.nat k _ g i.1 i.2.1 i.2.2) (fun {R} i0 i rec_ K => by kernel_rfl) k (xs2, a3, a4)
theorem f113.l3.all (k : Nat) (S : St env) : GoodL (f113.X k) (nthC 0 (loopsOf (bodyOf Try.f113))) S (f113.l3.hd k S.ts S.m S.n) := by
 obtain ⟨ts_, m_, n_⟩ := S
 show GoodL _ _ _ (f113.l3.hd k ts_ m_ n_)
 unfold f113.l3.hd
 have hg_ := f113.l3.good k
 exact rdL
theorem f113.l8.nat {R : Type} (k : Nat) (rec_) (g : _ → Option R) (a6) : (f113.l8.step k rec_ some a6).bind g = f113.l8.step k (fun a6 => (rec_ a6).bind g) g a6 := by
 simp only [f113.l8.step, bind_ite, bind_sum, oA, oS, oN]
theorem f113.l8.good (k : Nat) (a6) : GoodL (f113.X k) (nthC 1 (loopsOf (bodyOf Try.f113))) (f113.l8.st a6) { α := _, o := f113.l8 k k a6, w := f113.l8.w } :=
 loop_good (ι := Int) (α := Int) (fun i => f113.l8.st i) (fun j i => f113.l8 k j i) f113.l8.w (fun rec_ ret i => f113.l8.step k (fun a6 => rec_ a6) ret i)
  (fun _ => rfl) (fun _ _ => rfl) (fun rec_ g i => f113.l8.nat k _ g i) (fun {R} i0 i rec_ K => by kernel_rfl) k a6
theorem f113.l8.all (k : Nat) (S : St env) : GoodL (f113.X k) (nthC 1 (loopsOf (bodyOf Try.f113))) S (f113.l8.hd k S.ts S.m S.n) := by
 obtain ⟨ts_, m_, n_⟩ := S
 show GoodL _ _ _ (f113.l8.hd k ts_ m_ n_)
 unfold f113.l8.hd
 have hg_ := f113.l8.good k
 exact rdL
theorem f113.nat {R : Type} (k : Nat) (g : _ → Option R) (xs1) : f113.step k g xs1 = (f113 k xs1).bind g := by
 simp only [f113, f113.step, bind_ite, bind_sum, oA, oS, oN]
theorem f113.ev (k : Nat) (xs1 : List Int) : evF (f113.X k) (bodyOf Try.f113) Try.f113.ntmps Try.f113.results.toList [.v (.c (.sl 5 xs1))] = f113.step k (fun x => f113.w x some) xs1 := by kernel_rfl
theorem f113.hok (k : Nat) : HOK (f113.X k) (bodyOf Try.f113) where
 l := allP_mem (by exact ⟨ls_of (h0 := fun S => f113.l3.hd k S.ts S.m S.n) (by kernel_rfl) (f113.l3.all k), ls_of (h0 := fun S => f113.l8.hd k S.ts S.m S.n) (by kernel_rfl) (f113.l8.all k), trivial⟩)
 j := allP_mem (by exact trivial)
 q := allP_mem (by exact trivial)
theorem f113.sound0 (k : Nat) : SoundC env Try.prog 113 (f113.hd k) := by
 intro ps_
 show GoodC _ _ _ ps_ (f113.hd k ps_)
 unfold f113.hd
 have hF_ := fun_sound envOK (cs_sound _ (by exact trivial)) (f113.hok k) Try.func113 rfl
 have hev_ := f113.ev k
 have hnat_ := fun g_ => f113.nat k (R := Res env) g_
 exact rdC
theorem f113.sound (k : Nat) : SoundC env Try.prog 113 (f113.e k).F := soundC_coer (f113.sound0 k) [[.rd 5]]
theorem f113.fnok : FnOK Try.prog 113 := fn_ok Try.func113 (by kernel_rfl) rfl
def f112.step {R : Type} (k : Nat) (ret : ((List Int)) → Option R) (a1 : Int) (s2 s3 : ByteArray) (a4 a5 a6 a7 : Int) (b8 b9 : Bool) (xs10 : List Int) : Option R :=
 if (decide (a1 = 6)) = true then
 (f111 k ((List.length xs10) : Int)).bind fun t11 => if (List.length ([96, 0, 0, 0] : List Int) + List.length t11) * 1 ≤ maxN then
 if (List.length (([96, 0, 0, 0] : List Int) ++ t11) + List.length ([(IntKind.u8.wrap a5), (IntKind.u8.wrap a4)] : List Int)) * 1 ≤ maxN then
 if List.length ((([96, 0, 0, 0] : List Int) ++ t11) ++ ([(IntKind.u8.wrap a5), (IntKind.u8.wrap a4)] : List Int)) + List.length (bytesOf s2) ≤ maxN then
 if List.length (((([96, 0, 0, 0] : List Int) ++ t11) ++ ([(IntKind.u8.wrap a5), (IntKind.u8.wrap a4)] : List Int)) ++ (bytesOf s2)) + List.length (bytesOf s3) ≤ maxN then
 if (List.length ((((([96, 0, 0, 0] : List Int) ++ t11) ++ ([(IntKind.u8.wrap a5), (IntKind.u8.wrap a4)] : List Int)) ++ (bytesOf s2)) ++ (bytesOf s3)) + List.length xs10) * 1 ≤ maxN then
 ret (((((([96, 0, 0, 0] : List Int) ++ t11) ++ ([(IntKind.u8.wrap a5), (IntKind.u8.wrap a4)] : List Int)) ++ (bytesOf s2)) ++ (bytesOf s3)) ++ xs10)
 else none
 else none
 else none
 else none
 else none
 else
 (f111 k (IntKind.i64.wrap (20 + ((List.length xs10) : Int)))).bind fun t12 => if (List.length ([69, 0] : List Int) + List.length t12) * 1 ≤ maxN then
 (f111 k a6).bind fun t13 => if (List.length (([69, 0] : List Int) ++ t12) + List.length t13) * 1 ≤ maxN then
 (f162 k b9 16384).bind fun t14 => (f162 k b8 8192).bind fun t15 => (f111 k (IntKind.i64.wrap ((IntKind.i64.wrap (t14 + t15)) + a7))).bind fun t16 => if (List.length ((([69, 0] : List Int) ++ t12) ++ t13) + List.length t16) * 1 ≤ maxN then
 if (List.length (((([69, 0] : List Int) ++ t12) ++ t13) ++ t16) + List.length ([(IntKind.u8.wrap a4), (IntKind.u8.wrap a5), 0, 0] : List Int)) * 1 ≤ maxN then
 if List.length ((((([69, 0] : List Int) ++ t12) ++ t13) ++ t16) ++ ([(IntKind.u8.wrap a4), (IntKind.u8.wrap a5), 0, 0] : List Int)) + List.length (bytesOf s2) ≤ maxN then
 if List.length (((((([69, 0] : List Int) ++ t12) ++ t13) ++ t16) ++ ([(IntKind.u8.wrap a4), (IntKind.u8.wrap a5), 0, 0] : List Int)) ++ (bytesOf s2)) + List.length (bytesOf s3) ≤ maxN then
 (f113 k ((((((([69, 0] : List Int) ++ t12) ++ t13) ++ t16) ++ ([(IntKind.u8.wrap a4), (IntKind.u8.wrap a5), 0, 0] : List Int)) ++ (bytesOf s2)) ++ (bytesOf s3))).bind fun t17 => if 10 < ((List.length ((((((([69, 0] : List Int) ++ t12) ++ t13) ++ t16) ++ ([(IntKind.u8.wrap a4), (IntKind.u8.wrap a5), 0, 0] : List Int)) ++ (bytesOf s2)) ++ (bytesOf s3)) : Nat) : Int) then
 if 11 < ((List.length (List.set ((((((([69, 0] : List Int) ++ t12) ++ t13) ++ t16) ++ ([(IntKind.u8.wrap a4), (IntKind.u8.wrap a5), 0, 0] : List Int)) ++ (bytesOf s2)) ++ (bytesOf s3)) 10 (IntKind.u8.wrap (IntKind.i64.wrap (Int.tdiv t17 256)))) : Nat) : Int) then
 if (List.length (List.set (List.set ((((((([69, 0] : List Int) ++ t12) ++ t13) ++ t16) ++ ([(IntKind.u8.wrap a4), (IntKind.u8.wrap a5), 0, 0] : List Int)) ++ (bytesOf s2)) ++ (bytesOf s3)) 10 (IntKind.u8.wrap (IntKind.i64.wrap (Int.tdiv t17 256)))) 11 (IntKind.u8.wrap (Int.tmod t17 256))) + List.length xs10) * 1 ≤ maxN then
 ret ((List.set (List.set ((((((([69, 0] : List Int) ++ t12) ++ t13) ++ t16) ++ ([(IntKind.u8.wrap a4), (IntKind.u8.wrap a5), 0, 0] : List Int)) ++ (bytesOf s2)) ++ (bytesOf s3)) 10 (IntKind.u8.wrap (IntKind.i64.wrap (Int.tdiv t17 256)))) 11 (IntKind.u8.wrap (Int.tmod t17 256))) ++ xs10)
 else none
 else none
 else none
 else none
 else none
 else none
 else none
 else none
 else none
def f112 (k : Nat) (a1 : Int) (s2 s3 : ByteArray) (a4 a5 a6 a7 : Int) (b8 b9 : Bool) (xs10 : List Int) := f112.step k some a1 s2 s3 a4 a5 a6 a7 b8 b9 xs10
def f112.w {R : Type} : ((List Int)) → (Res env → Option R) → Option R := fun t18 K => K ⟨.v (.c (.own true 5 t18)), [[]]⟩
theorem f112.wn (x : ((List Int))) : ∃ res, ∀ {R : Type} (K : Res env → Option R), f112.w x K = K res := by
 exact ⟨_, fun _ => rfl⟩
def f112.hd (k : Nat) (ps_ : List (P2 env)) : Cl env :=
 gC Cl.no ps_ fun p_ ps_ => qG Cl.no p_ fun cs_ => dI Cl.no cs_ fun a1 cs_ => dS Cl.no cs_ fun s2 cs_ => dS Cl.no cs_ fun s3 cs_ => dI Cl.no cs_ fun a4 cs_ => dI Cl.no cs_ fun a5 cs_ => dI Cl.no cs_ fun a6 cs_ => dI Cl.no cs_ fun a7 cs_ => dB Cl.no cs_ fun b8 cs_ => dB Cl.no cs_ fun b9 cs_ => dM Cl.no 5 cs_ fun xs10 cs_ => gE Cl.no cs_ <| gE Cl.no ps_ <| { α := (List Int), o := f112 k a1 s2 s3 a4 a5 a6 a7 b8 b9 xs10, w := f112.w, nat := fun x _ => f112.wn x }
def f112.e (k : Nat) : Entry env := ⟨fun ps => f112.hd k (coer [[.no, .no, .no, .no, .no, .no, .no, .no, .no, .rd 5]] ps), [], []⟩
def f112.X (k : Nat) : Ctx env := { X0 with C := lookE [(111, f111.e k), (113, f113.e k), (162, f162.e k)], eff := fun n => memN n [4, 8, 10] }
theorem f112.nat {R : Type} (k : Nat) (g : _ → Option R) (a1 s2 s3 a4 a5 a6 a7 b8 b9 xs10) : f112.step k g a1 s2 s3 a4 a5 a6 a7 b8 b9 xs10 = (f112 k a1 s2 s3 a4 a5 a6 a7 b8 b9 xs10).bind g := by
 simp only [f112, f112.step, bind_ite, bind_sum, oA, oS, oN]
theorem f112.ev (k : Nat) (a1 : Int) (s2 s3 : ByteArray) (a4 a5 a6 a7 : Int) (b8 b9 : Bool) (xs10 : List Int) : evF (f112.X k) (bodyOf Try.f112) Try.f112.ntmps Try.f112.results.toList [.g [.s (.int .i64 a1), .s (.string s2), .s (.string s3), .s (.int .i64 a4), .s (.int .i64 a5), .s (.int .i64 a6), .s (.int .i64 a7), .s (.bool b8), .s (.bool b9), .sl 5 xs10]] = f112.step k (fun x => f112.w x some) a1 s2 s3 a4 a5 a6 a7 b8 b9 xs10 := by kernel_rfl
theorem f112.hok (k : Nat) : HOK (f112.X k) (bodyOf Try.f112) where
 l := allP_mem (by exact trivial)
 j := allP_mem (by exact trivial)
 q := allP_mem (by exact trivial)
theorem f112.sound0 (k : Nat) : SoundC env Try.prog 112 (f112.hd k) := by
 intro ps_
 show GoodC _ _ _ ps_ (f112.hd k ps_)
 unfold f112.hd
 have hF_ := fun_sound envOK (cs_sound _ (by exact ⟨⟨f111.sound k, f111.fnok⟩, ⟨f113.sound k, f113.fnok⟩, ⟨f162.sound k, f162.fnok⟩, trivial⟩)) (f112.hok k) Try.func112 rfl
 have hev_ := f112.ev k
 have hnat_ := fun g_ => f112.nat k (R := Res env) g_
 exact rdC
theorem f112.sound (k : Nat) : SoundC env Try.prog 112 (f112.e k).F := soundC_coer (f112.sound0 k) [[.no, .no, .no, .no, .no, .no, .no, .no, .no, .rd 5]]
theorem f112.fnok : FnOK Try.prog 112 := fn_ok Try.func112 (by kernel_rfl) rfl
def f42.q100005.step {R : Type} (k : Nat) (ret : ((Int × Int × Int × ByteArray × Bool × Int × Int × (List S66) × ByteArray × Bool × Int × Int × (List S66) × (List ByteArray) × (List Int) × Int × ByteArray × ByteArray × Int × Int × Int × Int × Bool × Bool × (List Int) × Int × ByteArray × ByteArray × Int × Int × Int × Int × Bool × Bool) ⊕ (Int × Int × ByteArray × Bool × Int × Int × (List S66) × ByteArray × Bool × Int × Int × (List S66) × (List ByteArray) × (List Int) × Int × ByteArray × ByteArray × Int × Int × Int × Int × Bool × Bool × (List Int) × Int × ByteArray × ByteArray × Int × Int × Int × Int × Bool × Bool)) → Option R) (a27 a28 : Int) (s29 : ByteArray) (b30 : Bool) (a31 a32 : Int) (xs33 : List S66) (s34 : ByteArray) (b35 : Bool) (a36 a37 : Int) (xs38 : List S66) (xs39 : List ByteArray) (xs40 : List Int) (a41 : Int) (s42 s43 : ByteArray) (a44 a45 a46 a47 : Int) (b48 b49 : Bool) (xs50 : List Int) (a51 : Int) (s52 s53 : ByteArray) (a54 a55 a56 a57 : Int) (b58 b59 : Bool) : Option R :=
 (f61 k a28 0 65535).bind fun t60 => if (!t60) = false then
 if (decide (a27 ≠ 10)) = true then
 if (decide (a27 ≠ 5)) = true then
 if (decide (a27 ≠ 11)) = true then
 ret (.inl (a27, a28, 4, s29, b30, a31, a32, xs33, s34, b35, a36, a37, xs38, xs39, xs40, a41, s42, s43, a44, a45, a46, a47, b48, b49, xs50, 0, ByteArray.empty, ByteArray.empty, 0, 0, 0, 0, false, false))
 else
 ret (.inr (a27, a28, s29, b30, a31, a32, xs33, s34, b35, a36, a37, xs38, xs39, xs40, a41, s42, s43, a44, a45, a46, a47, b48, b49, xs50, a51, s52, s53, a54, a55, a56, a57, b58, b59))
 else
 ret (.inr (a27, a28, s29, b30, a31, a32, xs33, s34, b35, a36, a37, xs38, xs39, xs40, a41, s42, s43, a44, a45, a46, a47, b48, b49, xs50, a51, s52, s53, a54, a55, a56, a57, b58, b59))
 else
 ret (.inr (a27, a28, s29, b30, a31, a32, xs33, s34, b35, a36, a37, xs38, xs39, xs40, a41, s42, s43, a44, a45, a46, a47, b48, b49, xs50, a51, s52, s53, a54, a55, a56, a57, b58, b59))
 else
 ret (.inl (a27, a28, 4, s29, b30, a31, a32, xs33, s34, b35, a36, a37, xs38, xs39, xs40, a41, s42, s43, a44, a45, a46, a47, b48, b49, xs50, 0, ByteArray.empty, ByteArray.empty, 0, 0, 0, 0, false, false))
def f42.q100005 (k : Nat) (a27 a28 : Int) (s29 : ByteArray) (b30 : Bool) (a31 a32 : Int) (xs33 : List S66) (s34 : ByteArray) (b35 : Bool) (a36 a37 : Int) (xs38 : List S66) (xs39 : List ByteArray) (xs40 : List Int) (a41 : Int) (s42 s43 : ByteArray) (a44 a45 a46 a47 : Int) (b48 b49 : Bool) (xs50 : List Int) (a51 : Int) (s52 s53 : ByteArray) (a54 a55 a56 a57 : Int) (b58 b59 : Bool) := f42.q100005.step k some a27 a28 s29 b30 a31 a32 xs33 s34 b35 a36 a37 xs38 xs39 xs40 a41 s42 s43 a44 a45 a46 a47 b48 b49 xs50 a51 s52 s53 a54 a55 a56 a57 b58 b59
def f42.q100005.w {R : Type} : ((Int × Int × Int × ByteArray × Bool × Int × Int × (List S66) × ByteArray × Bool × Int × Int × (List S66) × (List ByteArray) × (List Int) × Int × ByteArray × ByteArray × Int × Int × Int × Int × Bool × Bool × (List Int) × Int × ByteArray × ByteArray × Int × Int × Int × Int × Bool × Bool) ⊕ (Int × Int × ByteArray × Bool × Int × Int × (List S66) × ByteArray × Bool × Int × Int × (List S66) × (List ByteArray) × (List Int) × Int × ByteArray × ByteArray × Int × Int × Int × Int × Bool × Bool × (List Int) × Int × ByteArray × ByteArray × Int × Int × Int × Int × Bool × Bool)) → (Exit → St env → Option R) → Option R := fun x K => Sum.elim (fun t217 => let t217_a := t217.2.2.2.2.2.2.2.2; let t217_b := t217_a.2.2.2.2.2.2.2.2; let t217_c := t217_b.2.2.2.2.2.2.2.2; let t217_d := t217_c.2.2.2.2.2.2.2.2; K .ret ⟨fullT [2, 3, 4, 5, 8, 9] 0 207 [.v (.c (.s (.int .i64 t217.1))), .v (.c (.s (.int .i64 t217.2.1))), .v (.c (.bp 4 0)), .v (.c (.bp 20 0)), .v (.c (.bp 36 0)), .v (.c (.s (.int .i64 t217.2.2.1)))], [(4, .box [.s (.string t217.2.2.2.1), .s (.bool t217.2.2.2.2.1), .s (.int .i64 t217.2.2.2.2.2.1), .s (.int .i64 t217.2.2.2.2.2.2.1), .imm 66 t217.2.2.2.2.2.2.2.1, .s (.string t217_a.1), .s (.bool t217_a.2.1), .s (.int .i64 t217_a.2.2.1), .s (.int .i64 t217_a.2.2.2.1), .imm 66 t217_a.2.2.2.2.1, .imm 9 t217_a.2.2.2.2.2.1, .imm 3 t217_a.2.2.2.2.2.2.1]), (20, .box [.s (.int .i64 t217_a.2.2.2.2.2.2.2.1), .s (.string t217_b.1), .s (.string t217_b.2.1), .s (.int .i64 t217_b.2.2.1), .s (.int .i64 t217_b.2.2.2.1), .s (.int .i64 t217_b.2.2.2.2.1), .s (.int .i64 t217_b.2.2.2.2.2.1), .s (.bool t217_b.2.2.2.2.2.2.1), .s (.bool t217_b.2.2.2.2.2.2.2.1), .imm 5 t217_c.1]), (36, .box [.s (.int .i64 t217_c.2.1), .s (.string t217_c.2.2.1), .s (.string t217_c.2.2.2.1), .s (.int .i64 t217_c.2.2.2.2.1), .s (.int .i64 t217_c.2.2.2.2.2.1), .s (.int .i64 t217_c.2.2.2.2.2.2.1), .s (.int .i64 t217_c.2.2.2.2.2.2.2.1), .s (.bool t217_d.1), .s (.bool t217_d.2), .s (.slice none 0 0)])], 644⟩) (fun t218 => let t218_a := t218.2.2.2.2.2.2.2.2; let t218_b := t218_a.2.2.2.2.2.2.2.2; let t218_c := t218_b.2.2.2.2.2.2.2.2; let t218_d := t218_c.2.2.2.2.2.2.2.2; K .normal ⟨fullT [2, 3, 4, 5, 8] 0 207 [.v (.c (.s (.int .i64 t218.1))), .v (.c (.s (.int .i64 t218.2.1))), .v (.c (.bp 4 0)), .v (.c (.bp 20 0)), .v (.c (.bp 36 0))], [(4, .box [.s (.string t218.2.2.1), .s (.bool t218.2.2.2.1), .s (.int .i64 t218.2.2.2.2.1), .s (.int .i64 t218.2.2.2.2.2.1), .imm 66 t218.2.2.2.2.2.2.1, .s (.string t218.2.2.2.2.2.2.2.1), .s (.bool t218_a.1), .s (.int .i64 t218_a.2.1), .s (.int .i64 t218_a.2.2.1), .imm 66 t218_a.2.2.2.1, .imm 9 t218_a.2.2.2.2.1, .imm 3 t218_a.2.2.2.2.2.1]), (20, .box [.s (.int .i64 t218_a.2.2.2.2.2.2.1), .s (.string t218_a.2.2.2.2.2.2.2.1), .s (.string t218_b.1), .s (.int .i64 t218_b.2.1), .s (.int .i64 t218_b.2.2.1), .s (.int .i64 t218_b.2.2.2.1), .s (.int .i64 t218_b.2.2.2.2.1), .s (.bool t218_b.2.2.2.2.2.1), .s (.bool t218_b.2.2.2.2.2.2.1), .imm 5 t218_b.2.2.2.2.2.2.2.1]), (36, .box [.s (.int .i64 t218_c.1), .s (.string t218_c.2.1), .s (.string t218_c.2.2.1), .s (.int .i64 t218_c.2.2.2.1), .s (.int .i64 t218_c.2.2.2.2.1), .s (.int .i64 t218_c.2.2.2.2.2.1), .s (.int .i64 t218_c.2.2.2.2.2.2.1), .s (.bool t218_c.2.2.2.2.2.2.2.1), .s (.bool t218_d), .s (.slice none 0 0)])], 644⟩) x
def f42.q100005.st (a27 a28 : Int) (s29 : ByteArray) (b30 : Bool) (a31 a32 : Int) (xs33 : List S66) (s34 : ByteArray) (b35 : Bool) (a36 a37 : Int) (xs38 : List S66) (xs39 : List ByteArray) (xs40 : List Int) (a41 : Int) (s42 s43 : ByteArray) (a44 a45 a46 a47 : Int) (b48 b49 : Bool) (xs50 : List Int) (a51 : Int) (s52 s53 : ByteArray) (a54 a55 a56 a57 : Int) (b58 b59 : Bool) : St env := ⟨fullT [2, 3, 4, 5, 8] 0 207 [.v (.c (.s (.int .i64 a27))), .v (.c (.s (.int .i64 a28))), .v (.c (.bp 4 0)), .v (.c (.bp 20 0)), .v (.c (.bp 36 0))], [(4, .box [.s (.string s29), .s (.bool b30), .s (.int .i64 a31), .s (.int .i64 a32), .imm 66 xs33, .s (.string s34), .s (.bool b35), .s (.int .i64 a36), .s (.int .i64 a37), .imm 66 xs38, .imm 9 xs39, .imm 3 xs40]), (20, .box [.s (.int .i64 a41), .s (.string s42), .s (.string s43), .s (.int .i64 a44), .s (.int .i64 a45), .s (.int .i64 a46), .s (.int .i64 a47), .s (.bool b48), .s (.bool b49), .imm 5 xs50]), (36, .box [.s (.int .i64 a51), .s (.string s52), .s (.string s53), .s (.int .i64 a54), .s (.int .i64 a55), .s (.int .i64 a56), .s (.int .i64 a57), .s (.bool b58), .s (.bool b59), .s (.slice none 0 0)])], 356⟩
def f42.q100007.step {R : Type} (k : Nat) (ret : ((Int × Int × Int × ByteArray × Bool × Int × Int × (List S66) × ByteArray × Bool × Int × Int × (List S66) × (List ByteArray) × (List Int) × Int × ByteArray × ByteArray × Int × Int × Int × Int × Bool × Bool × (List Int) × Int × ByteArray × ByteArray × Int × Int × Int × Int × Bool × Bool) ⊕ (Int × Int × ByteArray × Bool × Int × Int × (List S66) × ByteArray × Bool × Int × Int × (List S66) × (List ByteArray) × (List Int) × Int × ByteArray × ByteArray × Int × Int × Int × Int × Bool × Bool × (List Int) × Int × ByteArray × ByteArray × Int × Int × Int × Int × Bool × Bool)) → Option R) (a63 a64 : Int) (s65 : ByteArray) (b66 : Bool) (a67 a68 : Int) (xs69 : List S66) (s70 : ByteArray) (b71 : Bool) (a72 a73 : Int) (xs74 : List S66) (xs75 : List ByteArray) (xs76 : List Int) (a77 : Int) (s78 s79 : ByteArray) (a80 a81 a82 a83 : Int) (b84 b85 : Bool) (xs86 : List Int) (a87 : Int) (s88 s89 : ByteArray) (a90 a91 a92 a93 : Int) (b94 b95 : Bool) : Option R :=
 if (decide (a81 = 1)) = true then
 if (decide (a77 = 4)) = false then
 if (decide (a81 = 58)) = true then
 if (decide (a77 = 6)) = false then
 if (decide (a83 > 0)) = true then
 ret (.inl (a63, a64, 9, s65, b66, a67, a68, xs69, s70, b71, a72, a73, xs74, xs75, xs76, a77, s78, s79, a80, a81, a82, a83, b84, b85, xs86, 0, ByteArray.empty, ByteArray.empty, 0, 0, 0, 0, false, false))
 else
 ret (.inr (a63, a64, s65, b66, a67, a68, xs69, s70, b71, a72, a73, xs74, xs75, xs76, a77, s78, s79, a80, a81, a82, a83, b84, b85, xs86, a87, s88, s89, a90, a91, a92, a93, b94, b95))
 else
 ret (.inl (a63, a64, 9, s65, b66, a67, a68, xs69, s70, b71, a72, a73, xs74, xs75, xs76, a77, s78, s79, a80, a81, a82, a83, b84, b85, xs86, 0, ByteArray.empty, ByteArray.empty, 0, 0, 0, 0, false, false))
 else
 if (decide (a83 > 0)) = true then
 ret (.inl (a63, a64, 9, s65, b66, a67, a68, xs69, s70, b71, a72, a73, xs74, xs75, xs76, a77, s78, s79, a80, a81, a82, a83, b84, b85, xs86, 0, ByteArray.empty, ByteArray.empty, 0, 0, 0, 0, false, false))
 else
 ret (.inr (a63, a64, s65, b66, a67, a68, xs69, s70, b71, a72, a73, xs74, xs75, xs76, a77, s78, s79, a80, a81, a82, a83, b84, b85, xs86, a87, s88, s89, a90, a91, a92, a93, b94, b95))
 else
 ret (.inl (a63, a64, 9, s65, b66, a67, a68, xs69, s70, b71, a72, a73, xs74, xs75, xs76, a77, s78, s79, a80, a81, a82, a83, b84, b85, xs86, 0, ByteArray.empty, ByteArray.empty, 0, 0, 0, 0, false, false))
 else
 if (decide (a81 = 58)) = true then
 if (decide (a77 = 6)) = false then
 if (decide (a83 > 0)) = true then
 ret (.inl (a63, a64, 9, s65, b66, a67, a68, xs69, s70, b71, a72, a73, xs74, xs75, xs76, a77, s78, s79, a80, a81, a82, a83, b84, b85, xs86, 0, ByteArray.empty, ByteArray.empty, 0, 0, 0, 0, false, false))
 else
 ret (.inr (a63, a64, s65, b66, a67, a68, xs69, s70, b71, a72, a73, xs74, xs75, xs76, a77, s78, s79, a80, a81, a82, a83, b84, b85, xs86, a87, s88, s89, a90, a91, a92, a93, b94, b95))
 else
 ret (.inl (a63, a64, 9, s65, b66, a67, a68, xs69, s70, b71, a72, a73, xs74, xs75, xs76, a77, s78, s79, a80, a81, a82, a83, b84, b85, xs86, 0, ByteArray.empty, ByteArray.empty, 0, 0, 0, 0, false, false))
 else
 if (decide (a83 > 0)) = true then
 ret (.inl (a63, a64, 9, s65, b66, a67, a68, xs69, s70, b71, a72, a73, xs74, xs75, xs76, a77, s78, s79, a80, a81, a82, a83, b84, b85, xs86, 0, ByteArray.empty, ByteArray.empty, 0, 0, 0, 0, false, false))
 else
 ret (.inr (a63, a64, s65, b66, a67, a68, xs69, s70, b71, a72, a73, xs74, xs75, xs76, a77, s78, s79, a80, a81, a82, a83, b84, b85, xs86, a87, s88, s89, a90, a91, a92, a93, b94, b95))
def f42.q100007 (k : Nat) (a63 a64 : Int) (s65 : ByteArray) (b66 : Bool) (a67 a68 : Int) (xs69 : List S66) (s70 : ByteArray) (b71 : Bool) (a72 a73 : Int) (xs74 : List S66) (xs75 : List ByteArray) (xs76 : List Int) (a77 : Int) (s78 s79 : ByteArray) (a80 a81 a82 a83 : Int) (b84 b85 : Bool) (xs86 : List Int) (a87 : Int) (s88 s89 : ByteArray) (a90 a91 a92 a93 : Int) (b94 b95 : Bool) := f42.q100007.step k some a63 a64 s65 b66 a67 a68 xs69 s70 b71 a72 a73 xs74 xs75 xs76 a77 s78 s79 a80 a81 a82 a83 b84 b85 xs86 a87 s88 s89 a90 a91 a92 a93 b94 b95
def f42.q100007.w {R : Type} : ((Int × Int × Int × ByteArray × Bool × Int × Int × (List S66) × ByteArray × Bool × Int × Int × (List S66) × (List ByteArray) × (List Int) × Int × ByteArray × ByteArray × Int × Int × Int × Int × Bool × Bool × (List Int) × Int × ByteArray × ByteArray × Int × Int × Int × Int × Bool × Bool) ⊕ (Int × Int × ByteArray × Bool × Int × Int × (List S66) × ByteArray × Bool × Int × Int × (List S66) × (List ByteArray) × (List Int) × Int × ByteArray × ByteArray × Int × Int × Int × Int × Bool × Bool × (List Int) × Int × ByteArray × ByteArray × Int × Int × Int × Int × Bool × Bool)) → (Exit → St env → Option R) → Option R := fun x K => Sum.elim (fun t219 => let t219_a := t219.2.2.2.2.2.2.2.2; let t219_b := t219_a.2.2.2.2.2.2.2.2; let t219_c := t219_b.2.2.2.2.2.2.2.2; let t219_d := t219_c.2.2.2.2.2.2.2.2; K .ret ⟨fullT [2, 3, 4, 5, 8, 9] 0 207 [.v (.c (.s (.int .i64 t219.1))), .v (.c (.s (.int .i64 t219.2.1))), .v (.c (.bp 4 0)), .v (.c (.bp 20 0)), .v (.c (.bp 36 0)), .v (.c (.s (.int .i64 t219.2.2.1)))], [(4, .box [.s (.string t219.2.2.2.1), .s (.bool t219.2.2.2.2.1), .s (.int .i64 t219.2.2.2.2.2.1), .s (.int .i64 t219.2.2.2.2.2.2.1), .imm 66 t219.2.2.2.2.2.2.2.1, .s (.string t219_a.1), .s (.bool t219_a.2.1), .s (.int .i64 t219_a.2.2.1), .s (.int .i64 t219_a.2.2.2.1), .imm 66 t219_a.2.2.2.2.1, .imm 9 t219_a.2.2.2.2.2.1, .imm 3 t219_a.2.2.2.2.2.2.1]), (20, .box [.s (.int .i64 t219_a.2.2.2.2.2.2.2.1), .s (.string t219_b.1), .s (.string t219_b.2.1), .s (.int .i64 t219_b.2.2.1), .s (.int .i64 t219_b.2.2.2.1), .s (.int .i64 t219_b.2.2.2.2.1), .s (.int .i64 t219_b.2.2.2.2.2.1), .s (.bool t219_b.2.2.2.2.2.2.1), .s (.bool t219_b.2.2.2.2.2.2.2.1), .imm 5 t219_c.1]), (36, .box [.s (.int .i64 t219_c.2.1), .s (.string t219_c.2.2.1), .s (.string t219_c.2.2.2.1), .s (.int .i64 t219_c.2.2.2.2.1), .s (.int .i64 t219_c.2.2.2.2.2.1), .s (.int .i64 t219_c.2.2.2.2.2.2.1), .s (.int .i64 t219_c.2.2.2.2.2.2.2.1), .s (.bool t219_d.1), .s (.bool t219_d.2), .s (.slice none 0 0)])], 1060⟩) (fun t220 => let t220_a := t220.2.2.2.2.2.2.2.2; let t220_b := t220_a.2.2.2.2.2.2.2.2; let t220_c := t220_b.2.2.2.2.2.2.2.2; let t220_d := t220_c.2.2.2.2.2.2.2.2; K .normal ⟨fullT [2, 3, 4, 5, 8] 0 207 [.v (.c (.s (.int .i64 t220.1))), .v (.c (.s (.int .i64 t220.2.1))), .v (.c (.bp 4 0)), .v (.c (.bp 20 0)), .v (.c (.bp 36 0))], [(4, .box [.s (.string t220.2.2.1), .s (.bool t220.2.2.2.1), .s (.int .i64 t220.2.2.2.2.1), .s (.int .i64 t220.2.2.2.2.2.1), .imm 66 t220.2.2.2.2.2.2.1, .s (.string t220.2.2.2.2.2.2.2.1), .s (.bool t220_a.1), .s (.int .i64 t220_a.2.1), .s (.int .i64 t220_a.2.2.1), .imm 66 t220_a.2.2.2.1, .imm 9 t220_a.2.2.2.2.1, .imm 3 t220_a.2.2.2.2.2.1]), (20, .box [.s (.int .i64 t220_a.2.2.2.2.2.2.1), .s (.string t220_a.2.2.2.2.2.2.2.1), .s (.string t220_b.1), .s (.int .i64 t220_b.2.1), .s (.int .i64 t220_b.2.2.1), .s (.int .i64 t220_b.2.2.2.1), .s (.int .i64 t220_b.2.2.2.2.1), .s (.bool t220_b.2.2.2.2.2.1), .s (.bool t220_b.2.2.2.2.2.2.1), .imm 5 t220_b.2.2.2.2.2.2.2.1]), (36, .box [.s (.int .i64 t220_c.1), .s (.string t220_c.2.1), .s (.string t220_c.2.2.1), .s (.int .i64 t220_c.2.2.2.1), .s (.int .i64 t220_c.2.2.2.2.1), .s (.int .i64 t220_c.2.2.2.2.2.1), .s (.int .i64 t220_c.2.2.2.2.2.2.1), .s (.bool t220_c.2.2.2.2.2.2.2.1), .s (.bool t220_d), .s (.slice none 0 0)])], 1060⟩) x
def f42.q100007.st (a63 a64 : Int) (s65 : ByteArray) (b66 : Bool) (a67 a68 : Int) (xs69 : List S66) (s70 : ByteArray) (b71 : Bool) (a72 a73 : Int) (xs74 : List S66) (xs75 : List ByteArray) (xs76 : List Int) (a77 : Int) (s78 s79 : ByteArray) (a80 a81 a82 a83 : Int) (b84 b85 : Bool) (xs86 : List Int) (a87 : Int) (s88 s89 : ByteArray) (a90 a91 a92 a93 : Int) (b94 b95 : Bool) : St env := ⟨fullT [2, 3, 4, 5, 8] 0 207 [.v (.c (.s (.int .i64 a63))), .v (.c (.s (.int .i64 a64))), .v (.c (.bp 4 0)), .v (.c (.bp 20 0)), .v (.c (.bp 36 0))], [(4, .box [.s (.string s65), .s (.bool b66), .s (.int .i64 a67), .s (.int .i64 a68), .imm 66 xs69, .s (.string s70), .s (.bool b71), .s (.int .i64 a72), .s (.int .i64 a73), .imm 66 xs74, .imm 9 xs75, .imm 3 xs76]), (20, .box [.s (.int .i64 a77), .s (.string s78), .s (.string s79), .s (.int .i64 a80), .s (.int .i64 a81), .s (.int .i64 a82), .s (.int .i64 a83), .s (.bool b84), .s (.bool b85), .imm 5 xs86]), (36, .box [.s (.int .i64 a87), .s (.string s88), .s (.string s89), .s (.int .i64 a90), .s (.int .i64 a91), .s (.int .i64 a92), .s (.int .i64 a93), .s (.bool b94), .s (.bool b95), .s (.slice none 0 0)])], 644⟩
def f42.j11.step {R : Type} (k : Nat) (ret : (Int × Int × ByteArray × Bool × Int × Int × (List S66) × ByteArray × Bool × Int × Int × (List S66) × (List ByteArray) × (List Int) × Int × ByteArray × ByteArray × Int × Int × Int × Int × Bool × Bool × (List Int) × Int × ByteArray × ByteArray × Int × Int × Int × Int × Bool × Bool) → Option R) (a98 a99 a100 : Int) (b101 : Bool) (s102 : ByteArray) (b103 : Bool) (a104 a105 : Int) (xs106 : List S66) (s107 : ByteArray) (b108 : Bool) (a109 a110 : Int) (xs111 : List S66) (xs112 : List ByteArray) (xs113 : List Int) (a114 : Int) (s115 s116 : ByteArray) (a117 a118 a119 a120 : Int) (b121 b122 : Bool) (xs123 : List Int) (a124 : Int) (s125 s126 : ByteArray) (a127 a128 a129 a130 : Int) (b131 b132 : Bool) : Option R :=
 if b101 = true then
 ret (a98, a99, s102, b103, a104, a105, xs106, s107, b108, a109, a110, xs111, xs112, xs113, a114, s115, s116, a117, a118, a119, a120, b121, b122, xs123, a124, s125, s126, a127, a128, a129, a130, b131, b132)
 else
 ret (a98, a100, s102, b103, a104, a105, xs106, s107, b108, a109, a110, xs111, xs112, xs113, a114, s115, s116, a117, a118, a119, a120, b121, b122, xs123, a124, s125, s126, a127, a128, a129, a130, b131, b132)
def f42.j11 (k : Nat) (a98 a99 a100 : Int) (b101 : Bool) (s102 : ByteArray) (b103 : Bool) (a104 a105 : Int) (xs106 : List S66) (s107 : ByteArray) (b108 : Bool) (a109 a110 : Int) (xs111 : List S66) (xs112 : List ByteArray) (xs113 : List Int) (a114 : Int) (s115 s116 : ByteArray) (a117 a118 a119 a120 : Int) (b121 b122 : Bool) (xs123 : List Int) (a124 : Int) (s125 s126 : ByteArray) (a127 a128 a129 a130 : Int) (b131 b132 : Bool) := f42.j11.step k some a98 a99 a100 b101 s102 b103 a104 a105 xs106 s107 b108 a109 a110 xs111 xs112 xs113 a114 s115 s116 a117 a118 a119 a120 b121 b122 xs123 a124 s125 s126 a127 a128 a129 a130 b131 b132
def f42.j11.w {R : Type} : (Int × Int × ByteArray × Bool × Int × Int × (List S66) × ByteArray × Bool × Int × Int × (List S66) × (List ByteArray) × (List Int) × Int × ByteArray × ByteArray × Int × Int × Int × Int × Bool × Bool × (List Int) × Int × ByteArray × ByteArray × Int × Int × Int × Int × Bool × Bool) → (Exit → St env → Option R) → Option R := fun t221 K => let t221_a := t221.2.2.2.2.2.2.2.2; let t221_b := t221_a.2.2.2.2.2.2.2.2; let t221_c := t221_b.2.2.2.2.2.2.2.2; let t221_d := t221_c.2.2.2.2.2.2.2.2; K .normal ⟨fullT [2, 4, 5, 8, 10] 0 207 [.v (.c (.s (.int .i64 t221.1))), .v (.c (.bp 4 0)), .v (.c (.bp 20 0)), .v (.c (.bp 36 0)), .v (.c (.s (.int .i64 t221.2.1)))], [(4, .box [.s (.string t221.2.2.1), .s (.bool t221.2.2.2.1), .s (.int .i64 t221.2.2.2.2.1), .s (.int .i64 t221.2.2.2.2.2.1), .imm 66 t221.2.2.2.2.2.2.1, .s (.string t221.2.2.2.2.2.2.2.1), .s (.bool t221_a.1), .s (.int .i64 t221_a.2.1), .s (.int .i64 t221_a.2.2.1), .imm 66 t221_a.2.2.2.1, .imm 9 t221_a.2.2.2.2.1, .imm 3 t221_a.2.2.2.2.2.1]), (20, .box [.s (.int .i64 t221_a.2.2.2.2.2.2.1), .s (.string t221_a.2.2.2.2.2.2.2.1), .s (.string t221_b.1), .s (.int .i64 t221_b.2.1), .s (.int .i64 t221_b.2.2.1), .s (.int .i64 t221_b.2.2.2.1), .s (.int .i64 t221_b.2.2.2.2.1), .s (.bool t221_b.2.2.2.2.2.1), .s (.bool t221_b.2.2.2.2.2.2.1), .imm 5 t221_b.2.2.2.2.2.2.2.1]), (36, .box [.s (.int .i64 t221_c.1), .s (.string t221_c.2.1), .s (.string t221_c.2.2.1), .s (.int .i64 t221_c.2.2.2.1), .s (.int .i64 t221_c.2.2.2.2.1), .s (.int .i64 t221_c.2.2.2.2.2.1), .s (.int .i64 t221_c.2.2.2.2.2.2.1), .s (.bool t221_c.2.2.2.2.2.2.2.1), .s (.bool t221_d), .s (.slice none 0 0)])], 1140⟩
def f42.j11.st (a98 a99 a100 : Int) (b101 : Bool) (s102 : ByteArray) (b103 : Bool) (a104 a105 : Int) (xs106 : List S66) (s107 : ByteArray) (b108 : Bool) (a109 a110 : Int) (xs111 : List S66) (xs112 : List ByteArray) (xs113 : List Int) (a114 : Int) (s115 s116 : ByteArray) (a117 a118 a119 a120 : Int) (b121 b122 : Bool) (xs123 : List Int) (a124 : Int) (s125 s126 : ByteArray) (a127 a128 a129 a130 : Int) (b131 b132 : Bool) : St env := ⟨fullT [2, 3, 4, 5, 8, 10, 78] 0 207 [.v (.c (.s (.int .i64 a98))), .v (.c (.s (.int .i64 a99))), .v (.c (.bp 4 0)), .v (.c (.bp 20 0)), .v (.c (.bp 36 0)), .v (.c (.s (.int .i64 a100))), .v (.c (.s (.bool b101)))], [(4, .box [.s (.string s102), .s (.bool b103), .s (.int .i64 a104), .s (.int .i64 a105), .imm 66 xs106, .s (.string s107), .s (.bool b108), .s (.int .i64 a109), .s (.int .i64 a110), .imm 66 xs111, .imm 9 xs112, .imm 3 xs113]), (20, .box [.s (.int .i64 a114), .s (.string s115), .s (.string s116), .s (.int .i64 a117), .s (.int .i64 a118), .s (.int .i64 a119), .s (.int .i64 a120), .s (.bool b121), .s (.bool b122), .imm 5 xs123]), (36, .box [.s (.int .i64 a124), .s (.string s125), .s (.string s126), .s (.int .i64 a127), .s (.int .i64 a128), .s (.int .i64 a129), .s (.int .i64 a130), .s (.bool b131), .s (.bool b132), .s (.slice none 0 0)])], 1108⟩
def f42.q100014.step {R : Type} (k : Nat) (ret : (Int × ByteArray × Bool × Int × Int × (List S66) × ByteArray × Bool × Int × Int × (List S66) × (List ByteArray) × (List Int) × Int × ByteArray × ByteArray × Int × Int × Int × Int × Bool × Bool × (List Int) × Int × ByteArray × ByteArray × Int × Int × Int × Int × Bool × Bool × (List Int)) → Option R) (a134 a135 : Int) (s136 : ByteArray) (b137 : Bool) (a138 a139 : Int) (xs140 : List S66) (s141 : ByteArray) (b142 : Bool) (a143 a144 : Int) (xs145 : List S66) (xs146 : List ByteArray) (xs147 : List Int) (a148 : Int) (s149 s150 : ByteArray) (a151 a152 a153 a154 : Int) (b155 b156 : Bool) (xs157 : List Int) (a158 : Int) (s159 s160 : ByteArray) (a161 a162 a163 a164 : Int) (b165 b166 : Bool) (xs167 : List Int) : Option R :=
 if (decide (a148 = 4)) = true then
 if (decide (a134 = 10)) = true then
 if (List.length xs167 + List.length ([11, 0] : List Int)) * 1 ≤ maxN then
 ret (a135, s136, b137, a138, a139, xs140, s141, b142, a143, a144, xs145, xs146, xs147, a148, s149, s150, a151, a152, a153, a154, b155, b156, xs157, a158, s159, s160, a161, a162, a163, a164, b165, b166, (xs167 ++ ([11, 0] : List Int)))
 else none
 else
 if (decide (a148 = 4)) = true then
 if (decide (a134 = 5)) = true then
 if (List.length xs167 + List.length ([3, 0] : List Int)) * 1 ≤ maxN then
 ret (a135, s136, b137, a138, a139, xs140, s141, b142, a143, a144, xs145, xs146, xs147, a148, s149, s150, a151, a152, a153, a154, b155, b156, xs157, a158, s159, s160, a161, a162, a163, a164, b165, b166, (xs167 ++ ([3, 0] : List Int)))
 else none
 else
 if (decide (a148 = 4)) = true then
 if (List.length xs167 + List.length ([3, 4] : List Int)) * 1 ≤ maxN then
 ret (a135, s136, b137, a138, a139, xs140, s141, b142, a143, a144, xs145, xs146, xs147, a148, s149, s150, a151, a152, a153, a154, b155, b156, xs157, a158, s159, s160, a161, a162, a163, a164, b165, b166, (xs167 ++ ([3, 4] : List Int)))
 else none
 else
 if (decide (a134 = 10)) = true then
 if (List.length xs167 + List.length ([3, 0] : List Int)) * 1 ≤ maxN then
 ret (a135, s136, b137, a138, a139, xs140, s141, b142, a143, a144, xs145, xs146, xs147, a148, s149, s150, a151, a152, a153, a154, b155, b156, xs157, a158, s159, s160, a161, a162, a163, a164, b165, b166, (xs167 ++ ([3, 0] : List Int)))
 else none
 else
 if (decide (a134 = 5)) = true then
 if (List.length xs167 + List.length ([1, 0] : List Int)) * 1 ≤ maxN then
 ret (a135, s136, b137, a138, a139, xs140, s141, b142, a143, a144, xs145, xs146, xs147, a148, s149, s150, a151, a152, a153, a154, b155, b156, xs157, a158, s159, s160, a161, a162, a163, a164, b165, b166, (xs167 ++ ([1, 0] : List Int)))
 else none
 else
 if (List.length xs167 + List.length ([2, 0] : List Int)) * 1 ≤ maxN then
 ret (a135, s136, b137, a138, a139, xs140, s141, b142, a143, a144, xs145, xs146, xs147, a148, s149, s150, a151, a152, a153, a154, b155, b156, xs157, a158, s159, s160, a161, a162, a163, a164, b165, b166, (xs167 ++ ([2, 0] : List Int)))
 else none
 else
 if (decide (a148 = 4)) = true then
 if (List.length xs167 + List.length ([3, 4] : List Int)) * 1 ≤ maxN then
 ret (a135, s136, b137, a138, a139, xs140, s141, b142, a143, a144, xs145, xs146, xs147, a148, s149, s150, a151, a152, a153, a154, b155, b156, xs157, a158, s159, s160, a161, a162, a163, a164, b165, b166, (xs167 ++ ([3, 4] : List Int)))
 else none
 else
 if (decide (a134 = 10)) = true then
 if (List.length xs167 + List.length ([3, 0] : List Int)) * 1 ≤ maxN then
 ret (a135, s136, b137, a138, a139, xs140, s141, b142, a143, a144, xs145, xs146, xs147, a148, s149, s150, a151, a152, a153, a154, b155, b156, xs157, a158, s159, s160, a161, a162, a163, a164, b165, b166, (xs167 ++ ([3, 0] : List Int)))
 else none
 else
 if (decide (a134 = 5)) = true then
 if (List.length xs167 + List.length ([1, 0] : List Int)) * 1 ≤ maxN then
 ret (a135, s136, b137, a138, a139, xs140, s141, b142, a143, a144, xs145, xs146, xs147, a148, s149, s150, a151, a152, a153, a154, b155, b156, xs157, a158, s159, s160, a161, a162, a163, a164, b165, b166, (xs167 ++ ([1, 0] : List Int)))
 else none
 else
 if (List.length xs167 + List.length ([2, 0] : List Int)) * 1 ≤ maxN then
 ret (a135, s136, b137, a138, a139, xs140, s141, b142, a143, a144, xs145, xs146, xs147, a148, s149, s150, a151, a152, a153, a154, b155, b156, xs157, a158, s159, s160, a161, a162, a163, a164, b165, b166, (xs167 ++ ([2, 0] : List Int)))
 else none
 else
 if (decide (a148 = 4)) = true then
 if (decide (a134 = 5)) = true then
 if (List.length xs167 + List.length ([3, 0] : List Int)) * 1 ≤ maxN then
 ret (a135, s136, b137, a138, a139, xs140, s141, b142, a143, a144, xs145, xs146, xs147, a148, s149, s150, a151, a152, a153, a154, b155, b156, xs157, a158, s159, s160, a161, a162, a163, a164, b165, b166, (xs167 ++ ([3, 0] : List Int)))
 else none
 else
 if (decide (a148 = 4)) = true then
 if (List.length xs167 + List.length ([3, 4] : List Int)) * 1 ≤ maxN then
 ret (a135, s136, b137, a138, a139, xs140, s141, b142, a143, a144, xs145, xs146, xs147, a148, s149, s150, a151, a152, a153, a154, b155, b156, xs157, a158, s159, s160, a161, a162, a163, a164, b165, b166, (xs167 ++ ([3, 4] : List Int)))
 else none
 else
 if (decide (a134 = 10)) = true then
 if (List.length xs167 + List.length ([3, 0] : List Int)) * 1 ≤ maxN then
 ret (a135, s136, b137, a138, a139, xs140, s141, b142, a143, a144, xs145, xs146, xs147, a148, s149, s150, a151, a152, a153, a154, b155, b156, xs157, a158, s159, s160, a161, a162, a163, a164, b165, b166, (xs167 ++ ([3, 0] : List Int)))
 else none
 else
 if (decide (a134 = 5)) = true then
 if (List.length xs167 + List.length ([1, 0] : List Int)) * 1 ≤ maxN then
 ret (a135, s136, b137, a138, a139, xs140, s141, b142, a143, a144, xs145, xs146, xs147, a148, s149, s150, a151, a152, a153, a154, b155, b156, xs157, a158, s159, s160, a161, a162, a163, a164, b165, b166, (xs167 ++ ([1, 0] : List Int)))
 else none
 else
 if (List.length xs167 + List.length ([2, 0] : List Int)) * 1 ≤ maxN then
 ret (a135, s136, b137, a138, a139, xs140, s141, b142, a143, a144, xs145, xs146, xs147, a148, s149, s150, a151, a152, a153, a154, b155, b156, xs157, a158, s159, s160, a161, a162, a163, a164, b165, b166, (xs167 ++ ([2, 0] : List Int)))
 else none
 else
 if (decide (a148 = 4)) = true then
 if (List.length xs167 + List.length ([3, 4] : List Int)) * 1 ≤ maxN then
 ret (a135, s136, b137, a138, a139, xs140, s141, b142, a143, a144, xs145, xs146, xs147, a148, s149, s150, a151, a152, a153, a154, b155, b156, xs157, a158, s159, s160, a161, a162, a163, a164, b165, b166, (xs167 ++ ([3, 4] : List Int)))
 else none
 else
 if (decide (a134 = 10)) = true then
 if (List.length xs167 + List.length ([3, 0] : List Int)) * 1 ≤ maxN then
 ret (a135, s136, b137, a138, a139, xs140, s141, b142, a143, a144, xs145, xs146, xs147, a148, s149, s150, a151, a152, a153, a154, b155, b156, xs157, a158, s159, s160, a161, a162, a163, a164, b165, b166, (xs167 ++ ([3, 0] : List Int)))
 else none
 else
 if (decide (a134 = 5)) = true then
 if (List.length xs167 + List.length ([1, 0] : List Int)) * 1 ≤ maxN then
 ret (a135, s136, b137, a138, a139, xs140, s141, b142, a143, a144, xs145, xs146, xs147, a148, s149, s150, a151, a152, a153, a154, b155, b156, xs157, a158, s159, s160, a161, a162, a163, a164, b165, b166, (xs167 ++ ([1, 0] : List Int)))
 else none
 else
 if (List.length xs167 + List.length ([2, 0] : List Int)) * 1 ≤ maxN then
 ret (a135, s136, b137, a138, a139, xs140, s141, b142, a143, a144, xs145, xs146, xs147, a148, s149, s150, a151, a152, a153, a154, b155, b156, xs157, a158, s159, s160, a161, a162, a163, a164, b165, b166, (xs167 ++ ([2, 0] : List Int)))
 else none
def f42.q100014 (k : Nat) (a134 a135 : Int) (s136 : ByteArray) (b137 : Bool) (a138 a139 : Int) (xs140 : List S66) (s141 : ByteArray) (b142 : Bool) (a143 a144 : Int) (xs145 : List S66) (xs146 : List ByteArray) (xs147 : List Int) (a148 : Int) (s149 s150 : ByteArray) (a151 a152 a153 a154 : Int) (b155 b156 : Bool) (xs157 : List Int) (a158 : Int) (s159 s160 : ByteArray) (a161 a162 a163 a164 : Int) (b165 b166 : Bool) (xs167 : List Int) := f42.q100014.step k some a134 a135 s136 b137 a138 a139 xs140 s141 b142 a143 a144 xs145 xs146 xs147 a148 s149 s150 a151 a152 a153 a154 b155 b156 xs157 a158 s159 s160 a161 a162 a163 a164 b165 b166 xs167
def f42.q100014.w {R : Type} : (Int × ByteArray × Bool × Int × Int × (List S66) × ByteArray × Bool × Int × Int × (List S66) × (List ByteArray) × (List Int) × Int × ByteArray × ByteArray × Int × Int × Int × Int × Bool × Bool × (List Int) × Int × ByteArray × ByteArray × Int × Int × Int × Int × Bool × Bool × (List Int)) → (Exit → St env → Option R) → Option R := fun t222 K => let t222_a := t222.2.2.2.2.2.2.2.2; let t222_b := t222_a.2.2.2.2.2.2.2.2; let t222_c := t222_b.2.2.2.2.2.2.2.2; let t222_d := t222_c.2.2.2.2.2.2.2.2; K .normal ⟨fullT [4, 5, 8, 10, 11] 0 207 [.v (.c (.bp 4 0)), .v (.c (.bp 20 0)), .v (.c (.bp 36 0)), .v (.c (.s (.int .i64 t222.1))), .v (.c (.row 1140))], [(4, .box [.s (.string t222.2.1), .s (.bool t222.2.2.1), .s (.int .i64 t222.2.2.2.1), .s (.int .i64 t222.2.2.2.2.1), .imm 66 t222.2.2.2.2.2.1, .s (.string t222.2.2.2.2.2.2.1), .s (.bool t222.2.2.2.2.2.2.2.1), .s (.int .i64 t222_a.1), .s (.int .i64 t222_a.2.1), .imm 66 t222_a.2.2.1, .imm 9 t222_a.2.2.2.1, .imm 3 t222_a.2.2.2.2.1]), (20, .box [.s (.int .i64 t222_a.2.2.2.2.2.1), .s (.string t222_a.2.2.2.2.2.2.1), .s (.string t222_a.2.2.2.2.2.2.2.1), .s (.int .i64 t222_b.1), .s (.int .i64 t222_b.2.1), .s (.int .i64 t222_b.2.2.1), .s (.int .i64 t222_b.2.2.2.1), .s (.bool t222_b.2.2.2.2.1), .s (.bool t222_b.2.2.2.2.2.1), .imm 5 t222_b.2.2.2.2.2.2.1]), (36, .box [.s (.int .i64 t222_b.2.2.2.2.2.2.2.1), .s (.string t222_c.1), .s (.string t222_c.2.1), .s (.int .i64 t222_c.2.2.1), .s (.int .i64 t222_c.2.2.2.1), .s (.int .i64 t222_c.2.2.2.2.1), .s (.int .i64 t222_c.2.2.2.2.2.1), .s (.bool t222_c.2.2.2.2.2.2.1), .s (.bool t222_c.2.2.2.2.2.2.2.1), .s (.slice none 0 0)]), (1140, .row true 5 t222_d)], 1652⟩
def f42.q100014.st (a134 a135 : Int) (s136 : ByteArray) (b137 : Bool) (a138 a139 : Int) (xs140 : List S66) (s141 : ByteArray) (b142 : Bool) (a143 a144 : Int) (xs145 : List S66) (xs146 : List ByteArray) (xs147 : List Int) (a148 : Int) (s149 s150 : ByteArray) (a151 a152 a153 a154 : Int) (b155 b156 : Bool) (xs157 : List Int) (a158 : Int) (s159 s160 : ByteArray) (a161 a162 a163 a164 : Int) (b165 b166 : Bool) (xs167 : List Int) : St env := ⟨fullT [2, 4, 5, 8, 10, 11] 0 207 [.v (.c (.s (.int .i64 a134))), .v (.c (.bp 4 0)), .v (.c (.bp 20 0)), .v (.c (.bp 36 0)), .v (.c (.s (.int .i64 a135))), .v (.c (.row 1140))], [(4, .box [.s (.string s136), .s (.bool b137), .s (.int .i64 a138), .s (.int .i64 a139), .imm 66 xs140, .s (.string s141), .s (.bool b142), .s (.int .i64 a143), .s (.int .i64 a144), .imm 66 xs145, .imm 9 xs146, .imm 3 xs147]), (20, .box [.s (.int .i64 a148), .s (.string s149), .s (.string s150), .s (.int .i64 a151), .s (.int .i64 a152), .s (.int .i64 a153), .s (.int .i64 a154), .s (.bool b155), .s (.bool b156), .imm 5 xs157]), (36, .box [.s (.int .i64 a158), .s (.string s159), .s (.string s160), .s (.int .i64 a161), .s (.int .i64 a162), .s (.int .i64 a163), .s (.int .i64 a164), .s (.bool b165), .s (.bool b166), .s (.slice none 0 0)]), (1140, .row true 5 xs167)], 1172⟩
def f42.l30.step {R : Type} (k : Nat) (rec_ : Int → ByteArray → Bool → Int → Int → (List S66) → ByteArray → Bool → Int → Int → (List S66) → (List ByteArray) → (List Int) → Int → ByteArray → ByteArray → Int → Int → Int → Int → Bool → Bool → (List Int) → Int → ByteArray → ByteArray → Int → Int → Int → Int → Bool → Bool → (List Int) → Int → ByteArray → ByteArray → Int → Int → Int → Int → Bool → Bool → Option R) (ret : (Int × ByteArray × ByteArray × Int × Int × Int × Int × Bool × Bool × (List Int) × Int × ByteArray × ByteArray × Int × Int × Int × Int × Bool × Bool × (List Int) × Int × ByteArray × ByteArray × Int × Int × Int × Int × Bool × Bool) → Option R) (a171 : Int) (s172 : ByteArray) (b173 : Bool) (a174 a175 : Int) (xs176 : List S66) (s177 : ByteArray) (b178 : Bool) (a179 a180 : Int) (xs181 : List S66) (xs182 : List ByteArray) (xs183 : List Int) (a184 : Int) (s185 s186 : ByteArray) (a187 a188 a189 a190 : Int) (b191 b192 : Bool) (xs193 : List Int) (a194 : Int) (s195 s196 : ByteArray) (a197 a198 a199 a200 : Int) (b201 b202 : Bool) (xs203 : List Int) (a204 : Int) (s205 s206 : ByteArray) (a207 a208 a209 a210 : Int) (b211 b212 : Bool) : Option R :=
 if (decide (a171 ≥ 0)) = true then
 if 0 ≤ a171 then
 if a171 < ((List.length xs182 : Nat) : Int) then
 if (decide ((((ByteArray.size (List.getD xs182 (Int.toNat a171) ByteArray.empty)) : Nat) : Int) = (((ByteArray.size s186) : Nat) : Int))) = true then
 if 0 ≤ a171 then
 if a171 < ((List.length xs182 : Nat) : Int) then
 rec_ (IntKind.i64.wrap (a171 - 1)) s172 b173 a174 a175 xs176 s177 b178 a179 a180 xs181 xs182 xs183 a184 s185 s186 a187 a188 a189 a190 b191 b192 xs193 a194 s195 s196 a197 a198 a199 a200 b201 b202 xs203 a204 (List.getD xs182 (Int.toNat a171) ByteArray.empty) s206 a207 a208 a209 a210 b211 b212
 else none
 else none
 else
 rec_ (IntKind.i64.wrap (a171 - 1)) s172 b173 a174 a175 xs176 s177 b178 a179 a180 xs181 xs182 xs183 a184 s185 s186 a187 a188 a189 a190 b191 b192 xs193 a194 s195 s196 a197 a198 a199 a200 b201 b202 xs203 a204 s205 s206 a207 a208 a209 a210 b211 b212
 else none
 else none
 else
 ret (a184, s185, s186, a187, a188, a189, a190, b191, b192, xs193, a194, s195, s196, a197, a198, a199, a200, b201, b202, xs203, a204, s205, s206, a207, a208, a209, a210, b211, b212)
def f42.l30 (k : Nat) : Nat → Int → ByteArray → Bool → Int → Int → (List S66) → ByteArray → Bool → Int → Int → (List S66) → (List ByteArray) → (List Int) → Int → ByteArray → ByteArray → Int → Int → Int → Int → Bool → Bool → (List Int) → Int → ByteArray → ByteArray → Int → Int → Int → Int → Bool → Bool → (List Int) → Int → ByteArray → ByteArray → Int → Int → Int → Int → Bool → Bool → Option (Int × ByteArray × ByteArray × Int × Int × Int × Int × Bool × Bool × (List Int) × Int × ByteArray × ByteArray × Int × Int × Int × Int × Bool × Bool × (List Int) × Int × ByteArray × ByteArray × Int × Int × Int × Int × Bool × Bool)
 | 0, _, _, _, _, _, _, _, _, _, _, _, _, _, _, _, _, _, _, _, _, _, _, _, _, _, _, _, _, _, _, _, _, _, _, _, _, _, _, _, _, _, _ => none
 | j + 1, a171, s172, b173, a174, a175, xs176, s177, b178, a179, a180, xs181, xs182, xs183, a184, s185, s186, a187, a188, a189, a190, b191, b192, xs193, a194, s195, s196, a197, a198, a199, a200, b201, b202, xs203, a204, s205, s206, a207, a208, a209, a210, b211, b212 => f42.l30.step k (fun a171 s172 b173 a174 a175 xs176 s177 b178 a179 a180 xs181 xs182 xs183 a184 s185 s186 a187 a188 a189 a190 b191 b192 xs193 a194 s195 s196 a197 a198 a199 a200 b201 b202 xs203 a204 s205 s206 a207 a208 a209 a210 b211 b212 => f42.l30 k j a171 s172 b173 a174 a175 xs176 s177 b178 a179 a180 xs181 xs182 xs183 a184 s185 s186 a187 a188 a189 a190 b191 b192 xs193 a194 s195 s196 a197 a198 a199 a200 b201 b202 xs203 a204 s205 s206 a207 a208 a209 a210 b211 b212) some a171 s172 b173 a174 a175 xs176 s177 b178 a179 a180 xs181 xs182 xs183 a184 s185 s186 a187 a188 a189 a190 b191 b192 xs193 a194 s195 s196 a197 a198 a199 a200 b201 b202 xs203 a204 s205 s206 a207 a208 a209 a210 b211 b212
def f42.l30.w {R : Type} : (Int × ByteArray × ByteArray × Int × Int × Int × Int × Bool × Bool × (List Int) × Int × ByteArray × ByteArray × Int × Int × Int × Int × Bool × Bool × (List Int) × Int × ByteArray × ByteArray × Int × Int × Int × Int × Bool × Bool) → (Exit → St env → Option R) → Option R := fun t223 K => let t223_a := t223.2.2.2.2.2.2.2.2; let t223_b := t223_a.2.2.2.2.2.2.2.2; let t223_c := t223_b.2.2.2.2.2.2.2.2; K (.exit 1) ⟨fullT [5, 8, 11, 13] 0 207 [.v (.c (.bp 20 0)), .v (.c (.bp 36 0)), .v (.c (.row 1940)), .v (.c (.bp 2068 0))], [(20, .box [.s (.int .i64 t223.1), .s (.string t223.2.1), .s (.string t223.2.2.1), .s (.int .i64 t223.2.2.2.1), .s (.int .i64 t223.2.2.2.2.1), .s (.int .i64 t223.2.2.2.2.2.1), .s (.int .i64 t223.2.2.2.2.2.2.1), .s (.bool t223.2.2.2.2.2.2.2.1), .s (.bool t223_a.1), .imm 5 t223_a.2.1]), (36, .box [.s (.int .i64 t223_a.2.2.1), .s (.string t223_a.2.2.2.1), .s (.string t223_a.2.2.2.2.1), .s (.int .i64 t223_a.2.2.2.2.2.1), .s (.int .i64 t223_a.2.2.2.2.2.2.1), .s (.int .i64 t223_a.2.2.2.2.2.2.2.1), .s (.int .i64 t223_b.1), .s (.bool t223_b.2.1), .s (.bool t223_b.2.2.1), .s (.slice none 0 0)]), (1940, .row true 5 t223_b.2.2.2.1), (2068, .box [.s (.int .i64 t223_b.2.2.2.2.1), .s (.string t223_b.2.2.2.2.2.1), .s (.string t223_b.2.2.2.2.2.2.1), .s (.int .i64 t223_b.2.2.2.2.2.2.2.1), .s (.int .i64 t223_c.1), .s (.int .i64 t223_c.2.1), .s (.int .i64 t223_c.2.2.1), .s (.bool t223_c.2.2.2.1), .s (.bool t223_c.2.2.2.2), .row 1940])], 2532⟩
def f42.l30.st (a171 : Int) (s172 : ByteArray) (b173 : Bool) (a174 a175 : Int) (xs176 : List S66) (s177 : ByteArray) (b178 : Bool) (a179 a180 : Int) (xs181 : List S66) (xs182 : List ByteArray) (xs183 : List Int) (a184 : Int) (s185 s186 : ByteArray) (a187 a188 a189 a190 : Int) (b191 b192 : Bool) (xs193 : List Int) (a194 : Int) (s195 s196 : ByteArray) (a197 a198 a199 a200 : Int) (b201 b202 : Bool) (xs203 : List Int) (a204 : Int) (s205 s206 : ByteArray) (a207 a208 a209 a210 : Int) (b211 b212 : Bool) : St env := ⟨fullT [4, 5, 8, 11, 13, 14] 0 207 [.v (.c (.bp 4 0)), .v (.c (.bp 20 0)), .v (.c (.bp 36 0)), .v (.c (.row 1940)), .v (.c (.bp 2068 0)), .v (.c (.s (.int .i64 a171)))], [(4, .box [.s (.string s172), .s (.bool b173), .s (.int .i64 a174), .s (.int .i64 a175), .imm 66 xs176, .s (.string s177), .s (.bool b178), .s (.int .i64 a179), .s (.int .i64 a180), .imm 66 xs181, .imm 9 xs182, .imm 3 xs183]), (20, .box [.s (.int .i64 a184), .s (.string s185), .s (.string s186), .s (.int .i64 a187), .s (.int .i64 a188), .s (.int .i64 a189), .s (.int .i64 a190), .s (.bool b191), .s (.bool b192), .imm 5 xs193]), (36, .box [.s (.int .i64 a194), .s (.string s195), .s (.string s196), .s (.int .i64 a197), .s (.int .i64 a198), .s (.int .i64 a199), .s (.int .i64 a200), .s (.bool b201), .s (.bool b202), .s (.slice none 0 0)]), (1940, .row true 5 xs203), (2068, .box [.s (.int .i64 a204), .s (.string s205), .s (.string s206), .s (.int .i64 a207), .s (.int .i64 a208), .s (.int .i64 a209), .s (.int .i64 a210), .s (.bool b211), .s (.bool b212), .row 1940])], 2180⟩
def f42.q100005.hd (k : Nat) (ts_ : List (AV env)) (mm_ : Mem env) (n_ : Nat) : LCl env :=
 gTs Ln [2, 3, 4, 5, 8] 207 ts_ fun l_ => tI Ln l_ fun a27 l_ => tI Ln l_ fun a28 l_ => tP Ln 4 l_ fun l_ => tP Ln 20 l_ fun l_ => tP Ln 36 l_ fun l_ => gE Ln l_ <| mBox Ln 4 mm_ fun c_ m_ => cS Ln c_ fun s29 c_ => cB Ln c_ fun b30 c_ => cI Ln c_ fun a31 c_ => cI Ln c_ fun a32 c_ => cM Ln 66 c_ fun xs33 c_ => cS Ln c_ fun s34 c_ => cB Ln c_ fun b35 c_ => cI Ln c_ fun a36 c_ => cI Ln c_ fun a37 c_ => cM Ln 66 c_ fun xs38 c_ => cM Ln 9 c_ fun xs39 c_ => cM Ln 3 c_ fun xs40 c_ => gE Ln c_ <| mBox Ln 20 m_ fun c_ m_ => cI Ln c_ fun a41 c_ => cS Ln c_ fun s42 c_ => cS Ln c_ fun s43 c_ => cI Ln c_ fun a44 c_ => cI Ln c_ fun a45 c_ => cI Ln c_ fun a46 c_ => cI Ln c_ fun a47 c_ => cB Ln c_ fun b48 c_ => cB Ln c_ fun b49 c_ => cM Ln 5 c_ fun xs50 c_ => gE Ln c_ <| mBox Ln 36 m_ fun c_ m_ => cI Ln c_ fun a51 c_ => cS Ln c_ fun s52 c_ => cS Ln c_ fun s53 c_ => cI Ln c_ fun a54 c_ => cI Ln c_ fun a55 c_ => cI Ln c_ fun a56 c_ => cI Ln c_ fun a57 c_ => cB Ln c_ fun b58 c_ => cB Ln c_ fun b59 c_ => cN Ln c_ fun c_ => gE Ln c_ <| gE Ln m_ <| gN Ln 356 n_ { α := (Int × Int × Int × ByteArray × Bool × Int × Int × (List S66) × ByteArray × Bool × Int × Int × (List S66) × (List ByteArray) × (List Int) × Int × ByteArray × ByteArray × Int × Int × Int × Int × Bool × Bool × (List Int) × Int × ByteArray × ByteArray × Int × Int × Int × Int × Bool × Bool) ⊕ (Int × Int × ByteArray × Bool × Int × Int × (List S66) × ByteArray × Bool × Int × Int × (List S66) × (List ByteArray) × (List Int) × Int × ByteArray × ByteArray × Int × Int × Int × Int × Bool × Bool × (List Int) × Int × ByteArray × ByteArray × Int × Int × Int × Int × Bool × Bool), o := f42.q100005 k a27 a28 s29 b30 a31 a32 xs33 s34 b35 a36 a37 xs38 xs39 xs40 a41 s42 s43 a44 a45 a46 a47 b48 b49 xs50 a51 s52 s53 a54 a55 a56 a57 b58 b59, w := f42.q100005.w }
def f42.q100007.hd (k : Nat) (ts_ : List (AV env)) (mm_ : Mem env) (n_ : Nat) : LCl env :=
 gTs Ln [2, 3, 4, 5, 8] 207 ts_ fun l_ => tI Ln l_ fun a63 l_ => tI Ln l_ fun a64 l_ => tP Ln 4 l_ fun l_ => tP Ln 20 l_ fun l_ => tP Ln 36 l_ fun l_ => gE Ln l_ <| mBox Ln 4 mm_ fun c_ m_ => cS Ln c_ fun s65 c_ => cB Ln c_ fun b66 c_ => cI Ln c_ fun a67 c_ => cI Ln c_ fun a68 c_ => cM Ln 66 c_ fun xs69 c_ => cS Ln c_ fun s70 c_ => cB Ln c_ fun b71 c_ => cI Ln c_ fun a72 c_ => cI Ln c_ fun a73 c_ => cM Ln 66 c_ fun xs74 c_ => cM Ln 9 c_ fun xs75 c_ => cM Ln 3 c_ fun xs76 c_ => gE Ln c_ <| mBox Ln 20 m_ fun c_ m_ => cI Ln c_ fun a77 c_ => cS Ln c_ fun s78 c_ => cS Ln c_ fun s79 c_ => cI Ln c_ fun a80 c_ => cI Ln c_ fun a81 c_ => cI Ln c_ fun a82 c_ => cI Ln c_ fun a83 c_ => cB Ln c_ fun b84 c_ => cB Ln c_ fun b85 c_ => cM Ln 5 c_ fun xs86 c_ => gE Ln c_ <| mBox Ln 36 m_ fun c_ m_ => cI Ln c_ fun a87 c_ => cS Ln c_ fun s88 c_ => cS Ln c_ fun s89 c_ => cI Ln c_ fun a90 c_ => cI Ln c_ fun a91 c_ => cI Ln c_ fun a92 c_ => cI Ln c_ fun a93 c_ => cB Ln c_ fun b94 c_ => cB Ln c_ fun b95 c_ => cN Ln c_ fun c_ => gE Ln c_ <| gE Ln m_ <| gN Ln 644 n_ { α := (Int × Int × Int × ByteArray × Bool × Int × Int × (List S66) × ByteArray × Bool × Int × Int × (List S66) × (List ByteArray) × (List Int) × Int × ByteArray × ByteArray × Int × Int × Int × Int × Bool × Bool × (List Int) × Int × ByteArray × ByteArray × Int × Int × Int × Int × Bool × Bool) ⊕ (Int × Int × ByteArray × Bool × Int × Int × (List S66) × ByteArray × Bool × Int × Int × (List S66) × (List ByteArray) × (List Int) × Int × ByteArray × ByteArray × Int × Int × Int × Int × Bool × Bool × (List Int) × Int × ByteArray × ByteArray × Int × Int × Int × Int × Bool × Bool), o := f42.q100007 k a63 a64 s65 b66 a67 a68 xs69 s70 b71 a72 a73 xs74 xs75 xs76 a77 s78 s79 a80 a81 a82 a83 b84 b85 xs86 a87 s88 s89 a90 a91 a92 a93 b94 b95, w := f42.q100007.w }
def f42.j11.hd (k : Nat) (ts_ : List (AV env)) (mm_ : Mem env) (n_ : Nat) : LCl env :=
 gTs Ln [2, 3, 4, 5, 8, 10, 78] 207 ts_ fun l_ => tI Ln l_ fun a98 l_ => tI Ln l_ fun a99 l_ => tP Ln 4 l_ fun l_ => tP Ln 20 l_ fun l_ => tP Ln 36 l_ fun l_ => tI Ln l_ fun a100 l_ => tB Ln l_ fun b101 l_ => gE Ln l_ <| mBox Ln 4 mm_ fun c_ m_ => cS Ln c_ fun s102 c_ => cB Ln c_ fun b103 c_ => cI Ln c_ fun a104 c_ => cI Ln c_ fun a105 c_ => cM Ln 66 c_ fun xs106 c_ => cS Ln c_ fun s107 c_ => cB Ln c_ fun b108 c_ => cI Ln c_ fun a109 c_ => cI Ln c_ fun a110 c_ => cM Ln 66 c_ fun xs111 c_ => cM Ln 9 c_ fun xs112 c_ => cM Ln 3 c_ fun xs113 c_ => gE Ln c_ <| mBox Ln 20 m_ fun c_ m_ => cI Ln c_ fun a114 c_ => cS Ln c_ fun s115 c_ => cS Ln c_ fun s116 c_ => cI Ln c_ fun a117 c_ => cI Ln c_ fun a118 c_ => cI Ln c_ fun a119 c_ => cI Ln c_ fun a120 c_ => cB Ln c_ fun b121 c_ => cB Ln c_ fun b122 c_ => cM Ln 5 c_ fun xs123 c_ => gE Ln c_ <| mBox Ln 36 m_ fun c_ m_ => cI Ln c_ fun a124 c_ => cS Ln c_ fun s125 c_ => cS Ln c_ fun s126 c_ => cI Ln c_ fun a127 c_ => cI Ln c_ fun a128 c_ => cI Ln c_ fun a129 c_ => cI Ln c_ fun a130 c_ => cB Ln c_ fun b131 c_ => cB Ln c_ fun b132 c_ => cN Ln c_ fun c_ => gE Ln c_ <| gE Ln m_ <| gN Ln 1108 n_ { α := Int × Int × ByteArray × Bool × Int × Int × (List S66) × ByteArray × Bool × Int × Int × (List S66) × (List ByteArray) × (List Int) × Int × ByteArray × ByteArray × Int × Int × Int × Int × Bool × Bool × (List Int) × Int × ByteArray × ByteArray × Int × Int × Int × Int × Bool × Bool, o := f42.j11 k a98 a99 a100 b101 s102 b103 a104 a105 xs106 s107 b108 a109 a110 xs111 xs112 xs113 a114 s115 s116 a117 a118 a119 a120 b121 b122 xs123 a124 s125 s126 a127 a128 a129 a130 b131 b132, w := f42.j11.w }
def f42.q100014.hd (k : Nat) (ts_ : List (AV env)) (mm_ : Mem env) (n_ : Nat) : LCl env :=
 gTs Ln [2, 4, 5, 8, 10, 11] 207 ts_ fun l_ => tI Ln l_ fun a134 l_ => tP Ln 4 l_ fun l_ => tP Ln 20 l_ fun l_ => tP Ln 36 l_ fun l_ => tI Ln l_ fun a135 l_ => tR Ln 1140 l_ fun l_ => gE Ln l_ <| mBox Ln 4 mm_ fun c_ m_ => cS Ln c_ fun s136 c_ => cB Ln c_ fun b137 c_ => cI Ln c_ fun a138 c_ => cI Ln c_ fun a139 c_ => cM Ln 66 c_ fun xs140 c_ => cS Ln c_ fun s141 c_ => cB Ln c_ fun b142 c_ => cI Ln c_ fun a143 c_ => cI Ln c_ fun a144 c_ => cM Ln 66 c_ fun xs145 c_ => cM Ln 9 c_ fun xs146 c_ => cM Ln 3 c_ fun xs147 c_ => gE Ln c_ <| mBox Ln 20 m_ fun c_ m_ => cI Ln c_ fun a148 c_ => cS Ln c_ fun s149 c_ => cS Ln c_ fun s150 c_ => cI Ln c_ fun a151 c_ => cI Ln c_ fun a152 c_ => cI Ln c_ fun a153 c_ => cI Ln c_ fun a154 c_ => cB Ln c_ fun b155 c_ => cB Ln c_ fun b156 c_ => cM Ln 5 c_ fun xs157 c_ => gE Ln c_ <| mBox Ln 36 m_ fun c_ m_ => cI Ln c_ fun a158 c_ => cS Ln c_ fun s159 c_ => cS Ln c_ fun s160 c_ => cI Ln c_ fun a161 c_ => cI Ln c_ fun a162 c_ => cI Ln c_ fun a163 c_ => cI Ln c_ fun a164 c_ => cB Ln c_ fun b165 c_ => cB Ln c_ fun b166 c_ => cN Ln c_ fun c_ => gE Ln c_ <| mRow Ln 1140 true 5 m_ fun xs167 m_ => gE Ln m_ <| gN Ln 1172 n_ { α := Int × ByteArray × Bool × Int × Int × (List S66) × ByteArray × Bool × Int × Int × (List S66) × (List ByteArray) × (List Int) × Int × ByteArray × ByteArray × Int × Int × Int × Int × Bool × Bool × (List Int) × Int × ByteArray × ByteArray × Int × Int × Int × Int × Bool × Bool × (List Int), o := f42.q100014 k a134 a135 s136 b137 a138 a139 xs140 s141 b142 a143 a144 xs145 xs146 xs147 a148 s149 s150 a151 a152 a153 a154 b155 b156 xs157 a158 s159 s160 a161 a162 a163 a164 b165 b166 xs167, w := f42.q100014.w }
def f42.l30.hd (k : Nat) (ts_ : List (AV env)) (mm_ : Mem env) (n_ : Nat) : LCl env :=
 gTs Ln [4, 5, 8, 11, 13, 14] 207 ts_ fun l_ => tP Ln 4 l_ fun l_ => tP Ln 20 l_ fun l_ => tP Ln 36 l_ fun l_ => tR Ln 1940 l_ fun l_ => tP Ln 2068 l_ fun l_ => tI Ln l_ fun a171 l_ => gE Ln l_ <| mBox Ln 4 mm_ fun c_ m_ => cS Ln c_ fun s172 c_ => cB Ln c_ fun b173 c_ => cI Ln c_ fun a174 c_ => cI Ln c_ fun a175 c_ => cM Ln 66 c_ fun xs176 c_ => cS Ln c_ fun s177 c_ => cB Ln c_ fun b178 c_ => cI Ln c_ fun a179 c_ => cI Ln c_ fun a180 c_ => cM Ln 66 c_ fun xs181 c_ => cM Ln 9 c_ fun xs182 c_ => cM Ln 3 c_ fun xs183 c_ => gE Ln c_ <| mBox Ln 20 m_ fun c_ m_ => cI Ln c_ fun a184 c_ => cS Ln c_ fun s185 c_ => cS Ln c_ fun s186 c_ => cI Ln c_ fun a187 c_ => cI Ln c_ fun a188 c_ => cI Ln c_ fun a189 c_ => cI Ln c_ fun a190 c_ => cB Ln c_ fun b191 c_ => cB Ln c_ fun b192 c_ => cM Ln 5 c_ fun xs193 c_ => gE Ln c_ <| mBox Ln 36 m_ fun c_ m_ => cI Ln c_ fun a194 c_ => cS Ln c_ fun s195 c_ => cS Ln c_ fun s196 c_ => cI Ln c_ fun a197 c_ => cI Ln c_ fun a198 c_ => cI Ln c_ fun a199 c_ => cI Ln c_ fun a200 c_ => cB Ln c_ fun b201 c_ => cB Ln c_ fun b202 c_ => cN Ln c_ fun c_ => gE Ln c_ <| mRow Ln 1940 true 5 m_ fun xs203 m_ => mBox Ln 2068 m_ fun c_ m_ => cI Ln c_ fun a204 c_ => cS Ln c_ fun s205 c_ => cS Ln c_ fun s206 c_ => cI Ln c_ fun a207 c_ => cI Ln c_ fun a208 c_ => cI Ln c_ fun a209 c_ => cI Ln c_ fun a210 c_ => cB Ln c_ fun b211 c_ => cB Ln c_ fun b212 c_ => cR Ln 1940 c_ fun c_ => gE Ln c_ <| gE Ln m_ <| gN Ln 2180 n_ { α := Int × ByteArray × ByteArray × Int × Int × Int × Int × Bool × Bool × (List Int) × Int × ByteArray × ByteArray × Int × Int × Int × Int × Bool × Bool × (List Int) × Int × ByteArray × ByteArray × Int × Int × Int × Int × Bool × Bool, o := f42.l30 k k a171 s172 b173 a174 a175 xs176 s177 b178 a179 a180 xs181 xs182 xs183 a184 s185 s186 a187 a188 a189 a190 b191 b192 xs193 a194 s195 s196 a197 a198 a199 a200 b201 b202 xs203 a204 s205 s206 a207 a208 a209 a210 b211 b212, w := f42.l30.w }
def f42.step {R : Type} (k : Nat) (ret : ((Int × ByteArray × ByteArray × Int × Int × Int × Int × Bool × Bool × Int) ⊕ (Int × ByteArray × ByteArray × Int × Int × Int × Int × Bool × Bool × (List Int) × Int)) → Option R) (s1 : ByteArray) (b2 : Bool) (a3 a4 : Int) (xs5 : List S66) (s6 : ByteArray) (b7 : Bool) (a8 a9 : Int) (xs10 : List S66) (xs11 : List ByteArray) (xs12 : List Int) (a13 : Int) (s14 s15 : ByteArray) (a16 a17 a18 a19 : Int) (b20 b21 : Bool) (xs22 : List Int) (a23 a24 : Int) : Option R :=
 if (decide (((List.length xs11) : Int) > 4096)) = false then
 if (decide (((List.length xs12) : Int) > 4096)) = true then
 ret (.inl (0, ByteArray.empty, ByteArray.empty, 0, 0, 0, 0, false, false, 2))
 else
 (f110 k s1 b2 a3 a4 xs5 s6 b7 a8 a9 xs10 xs11 xs12).bind fun t25 => if (!t25) = false then
 (f60 k a13 s14 s15 a16 a17 a18 a19 b20 b21 xs22).bind fun t26 => if (!t26) = true then
 ret (.inl (0, ByteArray.empty, ByteArray.empty, 0, 0, 0, 0, false, false, 1))
 else
 (f42.q100005 k a23 a24 s1 b2 a3 a4 xs5 s6 b7 a8 a9 xs10 xs11 xs12 a13 s14 s15 a16 a17 a18 a19 b20 b21 xs22 0 ByteArray.empty ByteArray.empty 0 0 0 0 false false).bind (Sum.elim (fun t61 => (let t61_a := t61.2.2.2.2.2.2.2.2; let t61_b := t61_a.2.2.2.2.2.2.2.2; let t61_c := t61_b.2.2.2.2.2.2.2.2; let t61_d := t61_c.2.2.2.2.2.2.2.2; ret (.inl (t61_c.2.1, t61_c.2.2.1, t61_c.2.2.2.1, t61_c.2.2.2.2.1, t61_c.2.2.2.2.2.1, t61_c.2.2.2.2.2.2.1, t61_c.2.2.2.2.2.2.2.1, t61_d.1, t61_d.2, t61.2.2.1)))) (fun t62 => (let t62_a := t62.2.2.2.2.2.2.2.2; let t62_b := t62_a.2.2.2.2.2.2.2.2; let t62_c := t62_b.2.2.2.2.2.2.2.2; let t62_d := t62_c.2.2.2.2.2.2.2.2; (f42.q100007 k t62.1 t62.2.1 t62.2.2.1 t62.2.2.2.1 t62.2.2.2.2.1 t62.2.2.2.2.2.1 t62.2.2.2.2.2.2.1 t62.2.2.2.2.2.2.2.1 t62_a.1 t62_a.2.1 t62_a.2.2.1 t62_a.2.2.2.1 t62_a.2.2.2.2.1 t62_a.2.2.2.2.2.1 t62_a.2.2.2.2.2.2.1 t62_a.2.2.2.2.2.2.2.1 t62_b.1 t62_b.2.1 t62_b.2.2.1 t62_b.2.2.2.1 t62_b.2.2.2.2.1 t62_b.2.2.2.2.2.1 t62_b.2.2.2.2.2.2.1 t62_b.2.2.2.2.2.2.2.1 t62_c.1 t62_c.2.1 t62_c.2.2.1 t62_c.2.2.2.1 t62_c.2.2.2.2.1 t62_c.2.2.2.2.2.1 t62_c.2.2.2.2.2.2.1 t62_c.2.2.2.2.2.2.2.1 t62_d).bind (Sum.elim (fun t96 => (let t96_a := t96.2.2.2.2.2.2.2.2; let t96_b := t96_a.2.2.2.2.2.2.2.2; let t96_c := t96_b.2.2.2.2.2.2.2.2; let t96_d := t96_c.2.2.2.2.2.2.2.2; ret (.inl (t96_c.2.1, t96_c.2.2.1, t96_c.2.2.2.1, t96_c.2.2.2.2.1, t96_c.2.2.2.2.2.1, t96_c.2.2.2.2.2.2.1, t96_c.2.2.2.2.2.2.2.1, t96_d.1, t96_d.2, t96.2.2.1)))) (fun t97 => (let t97_a := t97.2.2.2.2.2.2.2.2; let t97_b := t97_a.2.2.2.2.2.2.2.2; let t97_c := t97_b.2.2.2.2.2.2.2.2; let t97_d := t97_c.2.2.2.2.2.2.2.2; (f42.j11 k t97.1 t97.2.1 0 (decide (t97.1 = 11)) t97.2.2.1 t97.2.2.2.1 t97.2.2.2.2.1 t97.2.2.2.2.2.1 t97.2.2.2.2.2.2.1 t97.2.2.2.2.2.2.2.1 t97_a.1 t97_a.2.1 t97_a.2.2.1 t97_a.2.2.2.1 t97_a.2.2.2.2.1 t97_a.2.2.2.2.2.1 t97_a.2.2.2.2.2.2.1 t97_a.2.2.2.2.2.2.2.1 t97_b.1 t97_b.2.1 t97_b.2.2.1 t97_b.2.2.2.1 t97_b.2.2.2.2.1 t97_b.2.2.2.2.2.1 t97_b.2.2.2.2.2.2.1 t97_b.2.2.2.2.2.2.2.1 t97_c.1 t97_c.2.1 t97_c.2.2.1 t97_c.2.2.2.1 t97_c.2.2.2.2.1 t97_c.2.2.2.2.2.1 t97_c.2.2.2.2.2.2.1 t97_c.2.2.2.2.2.2.2.1 t97_d).bind fun t133 => (let t133_a := t133.2.2.2.2.2.2.2.2; let t133_b := t133_a.2.2.2.2.2.2.2.2; let t133_c := t133_b.2.2.2.2.2.2.2.2; let t133_d := t133_c.2.2.2.2.2.2.2.2; (f42.q100014 k t133.1 t133.2.1 t133.2.2.1 t133.2.2.2.1 t133.2.2.2.2.1 t133.2.2.2.2.2.1 t133.2.2.2.2.2.2.1 t133.2.2.2.2.2.2.2.1 t133_a.1 t133_a.2.1 t133_a.2.2.1 t133_a.2.2.2.1 t133_a.2.2.2.2.1 t133_a.2.2.2.2.2.1 t133_a.2.2.2.2.2.2.1 t133_a.2.2.2.2.2.2.2.1 t133_b.1 t133_b.2.1 t133_b.2.2.1 t133_b.2.2.2.1 t133_b.2.2.2.2.1 t133_b.2.2.2.2.2.1 t133_b.2.2.2.2.2.2.1 t133_b.2.2.2.2.2.2.2.1 t133_c.1 t133_c.2.1 t133_c.2.2.1 t133_c.2.2.2.1 t133_c.2.2.2.2.1 t133_c.2.2.2.2.2.1 t133_c.2.2.2.2.2.2.1 t133_c.2.2.2.2.2.2.2.1 t133_d ([] : List Int)).bind fun t168 => (let t168_a := t168.2.2.2.2.2.2.2.2; let t168_b := t168_a.2.2.2.2.2.2.2.2; let t168_c := t168_b.2.2.2.2.2.2.2.2; let t168_d := t168_c.2.2.2.2.2.2.2.2; let t168_0 := t168_a.2.2.2.1; let t168_1 := t168_a.2.2.2.2.2.1; let t168_2 := t168_a.2.2.2.2.2.2.1; let t168_3 := t168_a.2.2.2.2.2.2.2.1; let t168_4 := t168_b.1; let t168_5 := t168_b.2.1; let t168_6 := t168_b.2.2.1; let t168_7 := t168_b.2.2.2.1; let t168_8 := t168_b.2.2.2.2.1; let t168_9 := t168_b.2.2.2.2.2.1; let t168_10 := t168_b.2.2.2.2.2.2.1; let t168_11 := t168_d; if (List.length t168_11 + List.length ([0, 0, 0, 0] : List Int)) * 1 ≤ maxN then
 (f111 k t168.1).bind fun t169 => if (List.length (t168_11 ++ ([0, 0, 0, 0] : List Int)) + List.length t169) * 1 ≤ maxN then
 (f112 k t168_1 t168_2 t168_3 t168_4 t168_5 t168_6 t168_7 t168_8 t168_9 t168_10).bind fun t170 => if 0 ≤ (if 48 < ((List.length t170) : Int) then 48 else ((List.length t170) : Int)) then
 if (if 48 < ((List.length t170) : Int) then 48 else ((List.length t170) : Int)) ≤ ((List.length t170 : Nat) : Int) then
 if (List.length ((t168_11 ++ ([0, 0, 0, 0] : List Int)) ++ t169) + ((Int.toNat (if 48 < ((List.length t170) : Int) then 48 else ((List.length t170) : Int))) - 0)) * 1 ≤ maxN then
 (f42.l30 k k (IntKind.i64.wrap ((((List.length t168_0) : Nat) : Int) - 1)) t168.2.1 t168.2.2.1 t168.2.2.2.1 t168.2.2.2.2.1 t168.2.2.2.2.2.1 t168.2.2.2.2.2.2.1 t168.2.2.2.2.2.2.2.1 t168_a.1 t168_a.2.1 t168_a.2.2.1 t168_0 t168_a.2.2.2.2.1 t168_1 t168_2 t168_3 t168_4 t168_5 t168_6 t168_7 t168_8 t168_9 t168_10 t168_b.2.2.2.2.2.2.2.1 t168_c.1 t168_c.2.1 t168_c.2.2.1 t168_c.2.2.2.1 t168_c.2.2.2.2.1 t168_c.2.2.2.2.2.1 t168_c.2.2.2.2.2.2.1 t168_c.2.2.2.2.2.2.2.1 (((t168_11 ++ ([0, 0, 0, 0] : List Int)) ++ t169) ++ (List.take ((Int.toNat (if 48 < ((List.length t170) : Int) then 48 else ((List.length t170) : Int))) - 0) (List.drop 0 t170))) t168_1 ByteArray.empty t168_2 64 1 0 0 false false).bind fun t213 => (let t213_a := t213.2.2.2.2.2.2.2.2; let t213_b := t213_a.2.2.2.2.2.2.2.2; let t213_c := t213_b.2.2.2.2.2.2.2.2; let t213_0 := t213_b.2.2.2.1; let t213_1 := t213_b.2.2.2.2.1; let t213_2 := t213_b.2.2.2.2.2.1; let t213_3 := t213_b.2.2.2.2.2.2.1; let t213_4 := t213_b.2.2.2.2.2.2.2.1; let t213_5 := t213_c.2.1; let t213_6 := t213_c.2.2.1; let t213_7 := t213_c.2.2.2.1; let t213_8 := t213_c.2.2.2.2; if (decide (t213.1 = 6)) = true then
 if ByteArray.size t213_2 + ByteArray.size t213_3 ≤ maxN then
 if ByteArray.size (t213_2 ++ t213_3) ≤ maxN then
 if (List.length (bytesOf (t213_2 ++ t213_3)) + List.length ([0, 0] : List Int)) * 1 ≤ maxN then
 (f111 k (((List.length t213_0) : Nat) : Int)).bind fun t214 => if (List.length ((bytesOf (t213_2 ++ t213_3)) ++ ([0, 0] : List Int)) + List.length t214) * 1 ≤ maxN then
 if (List.length (((bytesOf (t213_2 ++ t213_3)) ++ ([0, 0] : List Int)) ++ t214) + List.length ([0, 0, 0, 58] : List Int)) * 1 ≤ maxN then
 if (List.length ((((bytesOf (t213_2 ++ t213_3)) ++ ([0, 0] : List Int)) ++ t214) ++ ([0, 0, 0, 58] : List Int)) + List.length t213_0) * 1 ≤ maxN then
 (f113 k (((((bytesOf (t213_2 ++ t213_3)) ++ ([0, 0] : List Int)) ++ t214) ++ ([0, 0, 0, 58] : List Int)) ++ t213_0)).bind fun t215 => if 2 < ((List.length t213_0 : Nat) : Int) then
 if 3 < ((List.length (List.set t213_0 2 (IntKind.u8.wrap (IntKind.i64.wrap (Int.tdiv t215 256)))) : Nat) : Int) then
 ret (.inr (t213_1, t213_2, t213_3, t213_4, 58, t213_5, t213_6, t213_7, t213_8, (List.set (List.set t213_0 2 (IntKind.u8.wrap (IntKind.i64.wrap (Int.tdiv t215 256)))) 3 (IntKind.u8.wrap (Int.tmod t215 256))), 0))
 else none
 else none
 else none
 else none
 else none
 else none
 else none
 else none
 else
 (f113 k t213_0).bind fun t216 => if 2 < ((List.length t213_0 : Nat) : Int) then
 if 3 < ((List.length (List.set t213_0 2 (IntKind.u8.wrap (IntKind.i64.wrap (Int.tdiv t216 256)))) : Nat) : Int) then
 ret (.inr (t213_1, t213_2, t213_3, t213_4, t213_c.1, t213_5, t213_6, t213_7, t213_8, (List.set (List.set t213_0 2 (IntKind.u8.wrap (IntKind.i64.wrap (Int.tdiv t216 256)))) 3 (IntKind.u8.wrap (Int.tmod t216 256))), 0))
 else none
 else none)
 else none
 else none
 else none
 else none
 else none))))))))
 else
 ret (.inl (0, ByteArray.empty, ByteArray.empty, 0, 0, 0, 0, false, false, 1))
 else
 ret (.inl (0, ByteArray.empty, ByteArray.empty, 0, 0, 0, 0, false, false, 2))
def f42 (k : Nat) (s1 : ByteArray) (b2 : Bool) (a3 a4 : Int) (xs5 : List S66) (s6 : ByteArray) (b7 : Bool) (a8 a9 : Int) (xs10 : List S66) (xs11 : List ByteArray) (xs12 : List Int) (a13 : Int) (s14 s15 : ByteArray) (a16 a17 a18 a19 : Int) (b20 b21 : Bool) (xs22 : List Int) (a23 a24 : Int) := f42.step k some s1 b2 a3 a4 xs5 s6 b7 a8 a9 xs10 xs11 xs12 a13 s14 s15 a16 a17 a18 a19 b20 b21 xs22 a23 a24
def f42.w {R : Type} : ((Int × ByteArray × ByteArray × Int × Int × Int × Int × Bool × Bool × Int) ⊕ (Int × ByteArray × ByteArray × Int × Int × Int × Int × Bool × Bool × (List Int) × Int)) → (Res env → Option R) → Option R := fun x K => Sum.elim (fun t224 => K ⟨.tup [.g [.s (.int .i64 t224.1), .s (.string t224.2.1), .s (.string t224.2.2.1), .s (.int .i64 t224.2.2.2.1), .s (.int .i64 t224.2.2.2.2.1), .s (.int .i64 t224.2.2.2.2.2.1), .s (.int .i64 t224.2.2.2.2.2.2.1), .s (.bool t224.2.2.2.2.2.2.2.1), .s (.bool t224.2.2.2.2.2.2.2.2.1), .s (.slice none 0 0)], .c (.s (.int .i64 t224.2.2.2.2.2.2.2.2.2))], [[], [], [], []]⟩) (fun t225 => K ⟨.tup [.g [.s (.int .i64 t225.1), .s (.string t225.2.1), .s (.string t225.2.2.1), .s (.int .i64 t225.2.2.2.1), .s (.int .i64 t225.2.2.2.2.1), .s (.int .i64 t225.2.2.2.2.2.1), .s (.int .i64 t225.2.2.2.2.2.2.1), .s (.bool t225.2.2.2.2.2.2.2.1), .s (.bool t225.2.2.2.2.2.2.2.2.1), .own true 5 t225.2.2.2.2.2.2.2.2.2.1], .c (.s (.int .i64 t225.2.2.2.2.2.2.2.2.2.2))], [[], [], [], []]⟩) x
theorem f42.wn (x : ((Int × ByteArray × ByteArray × Int × Int × Int × Int × Bool × Bool × Int) ⊕ (Int × ByteArray × ByteArray × Int × Int × Int × Int × Bool × Bool × (List Int) × Int))) : ∃ res, ∀ {R : Type} (K : Res env → Option R), f42.w x K = K res := by
 rcases x with x | x <;> exact ⟨_, fun _ => rfl⟩
def f42.hd (k : Nat) (ps_ : List (P2 env)) : Cl env :=
 gC Cl.no ps_ fun p_ ps_ => qG Cl.no p_ fun cs_ => dS Cl.no cs_ fun s1 cs_ => dB Cl.no cs_ fun b2 cs_ => dI Cl.no cs_ fun a3 cs_ => dI Cl.no cs_ fun a4 cs_ => dM Cl.no 66 cs_ fun xs5 cs_ => dS Cl.no cs_ fun s6 cs_ => dB Cl.no cs_ fun b7 cs_ => dI Cl.no cs_ fun a8 cs_ => dI Cl.no cs_ fun a9 cs_ => dM Cl.no 66 cs_ fun xs10 cs_ => dM Cl.no 9 cs_ fun xs11 cs_ => dM Cl.no 3 cs_ fun xs12 cs_ => gE Cl.no cs_ <| gC Cl.no ps_ fun p_ ps_ => qG Cl.no p_ fun cs_ => dI Cl.no cs_ fun a13 cs_ => dS Cl.no cs_ fun s14 cs_ => dS Cl.no cs_ fun s15 cs_ => dI Cl.no cs_ fun a16 cs_ => dI Cl.no cs_ fun a17 cs_ => dI Cl.no cs_ fun a18 cs_ => dI Cl.no cs_ fun a19 cs_ => dB Cl.no cs_ fun b20 cs_ => dB Cl.no cs_ fun b21 cs_ => dM Cl.no 5 cs_ fun xs22 cs_ => gE Cl.no cs_ <| pI Cl.no ps_ fun a23 ps_ => pI Cl.no ps_ fun a24 ps_ => gE Cl.no ps_ <| { α := (Int × ByteArray × ByteArray × Int × Int × Int × Int × Bool × Bool × Int) ⊕ (Int × ByteArray × ByteArray × Int × Int × Int × Int × Bool × Bool × (List Int) × Int), o := f42 k s1 b2 a3 a4 xs5 s6 b7 a8 a9 xs10 xs11 xs12 a13 s14 s15 a16 a17 a18 a19 b20 b21 xs22 a23 a24, w := f42.w, nat := fun x _ => f42.wn x }
def f42.e (k : Nat) : Entry env := ⟨fun ps => f42.hd k (coer [[.no, .no, .no, .no, .rd 66, .no, .no, .no, .no, .rd 66, .rd 9, .rd 3], [.no, .no, .no, .no, .no, .no, .no, .no, .no, .rd 5], [.no], [.no]] ps), [], []⟩
def f42.X (k : Nat) : Ctx env := { X0 with C := lookE [(60, f60.e k), (61, f61.e k), (110, f110.e k), (111, f111.e k), (112, f112.e k), (113, f113.e k)], L := lookE [(30, fun S => f42.l30.hd k S.ts S.m S.n)], J := lookE [(11, fun S => f42.j11.hd k S.ts S.m S.n)], keep := lookD [(30, [4, 5, 8, 11, 13, 14]), (11, [2, 3, 4, 5, 8, 10, 78]), (100005, [2, 3, 4, 5, 8]), (100007, [2, 3, 4, 5, 8]), (100014, [2, 4, 5, 8, 10, 11])], keepX := lookD [(30, [5, 8, 11, 13]), (11, [2, 4, 5, 8, 10]), (100005, [2, 3, 4, 5, 8, 9]), (100007, [2, 3, 4, 5, 8, 9]), (100014, [4, 5, 8, 10, 11])], span := lookN [(30, 352), (11, 32), (100005, 288), (100007, 416), (100014, 480)], Q := lookE [(100005, fun S => f42.q100005.hd k S.ts S.m S.n), (100007, fun S => f42.q100007.hd k S.ts S.m S.n), (100014, fun S => f42.q100014.hd k S.ts S.m S.n)] }
theorem f42.q100005.nat {R : Type} (k : Nat) (g : _ → Option R) (a27 a28 s29 b30 a31 a32 xs33 s34 b35 a36 a37 xs38 xs39 xs40 a41 s42 s43 a44 a45 a46 a47 b48 b49 xs50 a51 s52 s53 a54 a55 a56 a57 b58 b59) : f42.q100005.step k g a27 a28 s29 b30 a31 a32 xs33 s34 b35 a36 a37 xs38 xs39 xs40 a41 s42 s43 a44 a45 a46 a47 b48 b49 xs50 a51 s52 s53 a54 a55 a56 a57 b58 b59 = (f42.q100005 k a27 a28 s29 b30 a31 a32 xs33 s34 b35 a36 a37 xs38 xs39 xs40 a41 s42 s43 a44 a45 a46 a47 b48 b49 xs50 a51 s52 s53 a54 a55 a56 a57 b58 b59).bind g := by
 simp only [f42.q100005, f42.q100005.step, bind_ite, bind_sum, oA, oS, oN]
theorem f42.q100005.good (k : Nat) (a27 a28 s29 b30 a31 a32 xs33 s34 b35 a36 a37 xs38 xs39 xs40 a41 s42 s43 a44 a45 a46 a47 b48 b49 xs50 a51 s52 s53 a54 a55 a56 a57 b58 b59) : GoodQ (f42.X k) (nthQ 0 (seqsOf (fun n => ((f42.X 0).Q n).isSome) (bodyOf Try.f42))) (f42.q100005.st a27 a28 s29 b30 a31 a32 xs33 s34 b35 a36 a37 xs38 xs39 xs40 a41 s42 s43 a44 a45 a46 a47 b48 b49 xs50 a51 s52 s53 a54 a55 a56 a57 b58 b59) { α := _, o := f42.q100005 k a27 a28 s29 b30 a31 a32 xs33 s34 b35 a36 a37 xs38 xs39 xs40 a41 s42 s43 a44 a45 a46 a47 b48 b49 xs50 a51 s52 s53 a54 a55 a56 a57 b58 b59, w := f42.q100005.w } :=
 seq_good f42.q100005.w fun {R} K => by
  rw [← f42.q100005.nat]
  kernel_rfl
theorem f42.q100005.all (k : Nat) (S : St env) : GoodQ (f42.X k) (nthQ 0 (seqsOf (fun n => ((f42.X 0).Q n).isSome) (bodyOf Try.f42))) S (f42.q100005.hd k S.ts S.m S.n) := by
 obtain ⟨ts_, m_, n_⟩ := S
 show GoodQ _ _ _ (f42.q100005.hd k ts_ m_ n_)
 unfold f42.q100005.hd
 have hg_ := f42.q100005.good k
 exact rdQ
theorem f42.q100007.nat {R : Type} (k : Nat) (g : _ → Option R) (a63 a64 s65 b66 a67 a68 xs69 s70 b71 a72 a73 xs74 xs75 xs76 a77 s78 s79 a80 a81 a82 a83 b84 b85 xs86 a87 s88 s89 a90 a91 a92 a93 b94 b95) : f42.q100007.step k g a63 a64 s65 b66 a67 a68 xs69 s70 b71 a72 a73 xs74 xs75 xs76 a77 s78 s79 a80 a81 a82 a83 b84 b85 xs86 a87 s88 s89 a90 a91 a92 a93 b94 b95 = (f42.q100007 k a63 a64 s65 b66 a67 a68 xs69 s70 b71 a72 a73 xs74 xs75 xs76 a77 s78 s79 a80 a81 a82 a83 b84 b85 xs86 a87 s88 s89 a90 a91 a92 a93 b94 b95).bind g := by
 simp only [f42.q100007, f42.q100007.step, bind_ite, bind_sum, oA, oS, oN]
theorem f42.q100007.good (k : Nat) (a63 a64 s65 b66 a67 a68 xs69 s70 b71 a72 a73 xs74 xs75 xs76 a77 s78 s79 a80 a81 a82 a83 b84 b85 xs86 a87 s88 s89 a90 a91 a92 a93 b94 b95) : GoodQ (f42.X k) (nthQ 1 (seqsOf (fun n => ((f42.X 0).Q n).isSome) (bodyOf Try.f42))) (f42.q100007.st a63 a64 s65 b66 a67 a68 xs69 s70 b71 a72 a73 xs74 xs75 xs76 a77 s78 s79 a80 a81 a82 a83 b84 b85 xs86 a87 s88 s89 a90 a91 a92 a93 b94 b95) { α := _, o := f42.q100007 k a63 a64 s65 b66 a67 a68 xs69 s70 b71 a72 a73 xs74 xs75 xs76 a77 s78 s79 a80 a81 a82 a83 b84 b85 xs86 a87 s88 s89 a90 a91 a92 a93 b94 b95, w := f42.q100007.w } :=
 seq_good f42.q100007.w fun {R} K => by
  rw [← f42.q100007.nat]
  kernel_rfl
theorem f42.q100007.all (k : Nat) (S : St env) : GoodQ (f42.X k) (nthQ 1 (seqsOf (fun n => ((f42.X 0).Q n).isSome) (bodyOf Try.f42))) S (f42.q100007.hd k S.ts S.m S.n) := by
 obtain ⟨ts_, m_, n_⟩ := S
 show GoodQ _ _ _ (f42.q100007.hd k ts_ m_ n_)
 unfold f42.q100007.hd
 have hg_ := f42.q100007.good k
 exact rdQ
theorem f42.j11.nat {R : Type} (k : Nat) (g : _ → Option R) (a98 a99 a100 b101 s102 b103 a104 a105 xs106 s107 b108 a109 a110 xs111 xs112 xs113 a114 s115 s116 a117 a118 a119 a120 b121 b122 xs123 a124 s125 s126 a127 a128 a129 a130 b131 b132) : f42.j11.step k g a98 a99 a100 b101 s102 b103 a104 a105 xs106 s107 b108 a109 a110 xs111 xs112 xs113 a114 s115 s116 a117 a118 a119 a120 b121 b122 xs123 a124 s125 s126 a127 a128 a129 a130 b131 b132 = (f42.j11 k a98 a99 a100 b101 s102 b103 a104 a105 xs106 s107 b108 a109 a110 xs111 xs112 xs113 a114 s115 s116 a117 a118 a119 a120 b121 b122 xs123 a124 s125 s126 a127 a128 a129 a130 b131 b132).bind g := by
 simp only [f42.j11, f42.j11.step, bind_ite, bind_sum, oA, oS, oN]
theorem f42.j11.good (k : Nat) (a98 a99 a100 b101 s102 b103 a104 a105 xs106 s107 b108 a109 a110 xs111 xs112 xs113 a114 s115 s116 a117 a118 a119 a120 b121 b122 xs123 a124 s125 s126 a127 a128 a129 a130 b131 b132) : GoodJ (f42.X k) (nthJ 0 (condsOf (fun n => ((f42.X 0).J n).isSome) (bodyOf Try.f42))) (f42.j11.st a98 a99 a100 b101 s102 b103 a104 a105 xs106 s107 b108 a109 a110 xs111 xs112 xs113 a114 s115 s116 a117 a118 a119 a120 b121 b122 xs123 a124 s125 s126 a127 a128 a129 a130 b131 b132) { α := _, o := f42.j11 k a98 a99 a100 b101 s102 b103 a104 a105 xs106 s107 b108 a109 a110 xs111 xs112 xs113 a114 s115 s116 a117 a118 a119 a120 b121 b122 xs123 a124 s125 s126 a127 a128 a129 a130 b131 b132, w := f42.j11.w } :=
 branch_good f42.j11.w fun {R} K => by
  rw [← f42.j11.nat]
  kernel_rfl
theorem f42.j11.all (k : Nat) (S : St env) : GoodJ (f42.X k) (nthJ 0 (condsOf (fun n => ((f42.X 0).J n).isSome) (bodyOf Try.f42))) S (f42.j11.hd k S.ts S.m S.n) := by
 obtain ⟨ts_, m_, n_⟩ := S
 show GoodJ _ _ _ (f42.j11.hd k ts_ m_ n_)
 unfold f42.j11.hd
 have hg_ := f42.j11.good k
 exact rdJ
theorem f42.q100014.nat {R : Type} (k : Nat) (g : _ → Option R) (a134 a135 s136 b137 a138 a139 xs140 s141 b142 a143 a144 xs145 xs146 xs147 a148 s149 s150 a151 a152 a153 a154 b155 b156 xs157 a158 s159 s160 a161 a162 a163 a164 b165 b166 xs167) : f42.q100014.step k g a134 a135 s136 b137 a138 a139 xs140 s141 b142 a143 a144 xs145 xs146 xs147 a148 s149 s150 a151 a152 a153 a154 b155 b156 xs157 a158 s159 s160 a161 a162 a163 a164 b165 b166 xs167 = (f42.q100014 k a134 a135 s136 b137 a138 a139 xs140 s141 b142 a143 a144 xs145 xs146 xs147 a148 s149 s150 a151 a152 a153 a154 b155 b156 xs157 a158 s159 s160 a161 a162 a163 a164 b165 b166 xs167).bind g := by
 simp only [f42.q100014, f42.q100014.step, bind_ite, bind_sum, oA, oS, oN]
theorem f42.q100014.good (k : Nat) (a134 a135 s136 b137 a138 a139 xs140 s141 b142 a143 a144 xs145 xs146 xs147 a148 s149 s150 a151 a152 a153 a154 b155 b156 xs157 a158 s159 s160 a161 a162 a163 a164 b165 b166 xs167) : GoodQ (f42.X k) (nthQ 2 (seqsOf (fun n => ((f42.X 0).Q n).isSome) (bodyOf Try.f42))) (f42.q100014.st a134 a135 s136 b137 a138 a139 xs140 s141 b142 a143 a144 xs145 xs146 xs147 a148 s149 s150 a151 a152 a153 a154 b155 b156 xs157 a158 s159 s160 a161 a162 a163 a164 b165 b166 xs167) { α := _, o := f42.q100014 k a134 a135 s136 b137 a138 a139 xs140 s141 b142 a143 a144 xs145 xs146 xs147 a148 s149 s150 a151 a152 a153 a154 b155 b156 xs157 a158 s159 s160 a161 a162 a163 a164 b165 b166 xs167, w := f42.q100014.w } :=
 seq_good f42.q100014.w fun {R} K => by
  rw [← f42.q100014.nat]
  kernel_rfl
theorem f42.q100014.all (k : Nat) (S : St env) : GoodQ (f42.X k) (nthQ 2 (seqsOf (fun n => ((f42.X 0).Q n).isSome) (bodyOf Try.f42))) S (f42.q100014.hd k S.ts S.m S.n) := by
 obtain ⟨ts_, m_, n_⟩ := S
 show GoodQ _ _ _ (f42.q100014.hd k ts_ m_ n_)
 unfold f42.q100014.hd
 have hg_ := f42.q100014.good k
 exact rdQ
theorem f42.l30.nat {R : Type} (k : Nat) (rec_) (g : _ → Option R) (a171 s172 b173 a174 a175 xs176 s177 b178 a179 a180 xs181 xs182 xs183 a184 s185 s186 a187 a188 a189 a190 b191 b192 xs193 a194 s195 s196 a197 a198 a199 a200 b201 b202 xs203 a204 s205 s206 a207 a208 a209 a210 b211 b212) : (f42.l30.step k rec_ some a171 s172 b173 a174 a175 xs176 s177 b178 a179 a180 xs181 xs182 xs183 a184 s185 s186 a187 a188 a189 a190 b191 b192 xs193 a194 s195 s196 a197 a198 a199 a200 b201 b202 xs203 a204 s205 s206 a207 a208 a209 a210 b211 b212).bind g = f42.l30.step k (fun a171 s172 b173 a174 a175 xs176 s177 b178 a179 a180 xs181 xs182 xs183 a184 s185 s186 a187 a188 a189 a190 b191 b192 xs193 a194 s195 s196 a197 a198 a199 a200 b201 b202 xs203 a204 s205 s206 a207 a208 a209 a210 b211 b212 => (rec_ a171 s172 b173 a174 a175 xs176 s177 b178 a179 a180 xs181 xs182 xs183 a184 s185 s186 a187 a188 a189 a190 b191 b192 xs193 a194 s195 s196 a197 a198 a199 a200 b201 b202 xs203 a204 s205 s206 a207 a208 a209 a210 b211 b212).bind g) g a171 s172 b173 a174 a175 xs176 s177 b178 a179 a180 xs181 xs182 xs183 a184 s185 s186 a187 a188 a189 a190 b191 b192 xs193 a194 s195 s196 a197 a198 a199 a200 b201 b202 xs203 a204 s205 s206 a207 a208 a209 a210 b211 b212 := by
 simp only [f42.l30.step, bind_ite, bind_sum, oA, oS, oN]
theorem f42.l30.good (k : Nat) (a171 s172 b173 a174 a175 xs176 s177 b178 a179 a180 xs181 xs182 xs183 a184 s185 s186 a187 a188 a189 a190 b191 b192 xs193 a194 s195 s196 a197 a198 a199 a200 b201 b202 xs203 a204 s205 s206 a207 a208 a209 a210 b211 b212) : GoodL (f42.X k) (nthC 0 (loopsOf (bodyOf Try.f42))) (f42.l30.st a171 s172 b173 a174 a175 xs176 s177 b178 a179 a180 xs181 xs182 xs183 a184 s185 s186 a187 a188 a189 a190 b191 b192 xs193 a194 s195 s196 a197 a198 a199 a200 b201 b202 xs203 a204 s205 s206 a207 a208 a209 a210 b211 b212) { α := _, o := f42.l30 k k a171 s172 b173 a174 a175 xs176 s177 b178 a179 a180 xs181 xs182 xs183 a184 s185 s186 a187 a188 a189 a190 b191 b192 xs193 a194 s195 s196 a197 a198 a199 a200 b201 b202 xs203 a204 s205 s206 a207 a208 a209 a210 b211 b212, w := f42.l30.w } :=
 loop_good (ι := Int × ByteArray × Bool × Int × Int × (List S66) × ByteArray × Bool × Int × Int × (List S66) × (List ByteArray) × (List Int) × Int × ByteArray × ByteArray × Int × Int × Int × Int × Bool × Bool × (List Int) × Int × ByteArray × ByteArray × Int × Int × Int × Int × Bool × Bool × (List Int) × Int × ByteArray × ByteArray × Int × Int × Int × Int × Bool × Bool) (α := (Int × ByteArray × ByteArray × Int × Int × Int × Int × Bool × Bool × (List Int) × Int × ByteArray × ByteArray × Int × Int × Int × Int × Bool × Bool × (List Int) × Int × ByteArray × ByteArray × Int × Int × Int × Int × Bool × Bool)) (fun i => let i_a := i.2.2.2.2.2.2.2.2; let i_b := i_a.2.2.2.2.2.2.2.2; let i_c := i_b.2.2.2.2.2.2.2.2; let i_d := i_c.2.2.2.2.2.2.2.2; let i_e := i_d.2.2.2.2.2.2.2.2; f42.l30.st i.1 i.2.1 i.2.2.1 i.2.2.2.1 i.2.2.2.2.1 i.2.2.2.2.2.1 i.2.2.2.2.2.2.1 i.2.2.2.2.2.2.2.1 i_a.1 i_a.2.1 i_a.2.2.1 i_a.2.2.2.1 i_a.2.2.2.2.1 i_a.2.2.2.2.2.1 i_a.2.2.2.2.2.2.1 i_a.2.2.2.2.2.2.2.1 i_b.1 i_b.2.1 i_b.2.2.1 i_b.2.2.2.1 i_b.2.2.2.2.1 i_b.2.2.2.2.2.1 i_b.2.2.2.2.2.2.1 i_b.2.2.2.2.2.2.2.1 i_c.1 i_c.2.1 i_c.2.2.1 i_c.2.2.2.1 i_c.2.2.2.2.1 i_c.2.2.2.2.2.1 i_c.2.2.2.2.2.2.1 i_c.2.2.2.2.2.2.2.1 i_d.1 i_d.2.1 i_d.2.2.1 i_d.2.2.2.1 i_d.2.2.2.2.1 i_d.2.2.2.2.2.1 i_d.2.2.2.2.2.2.1 i_d.2.2.2.2.2.2.2.1 i_e.1 i_e.2) (fun j i => let i_a := i.2.2.2.2.2.2.2.2; let i_b := i_a.2.2.2.2.2.2.2.2; let i_c := i_b.2.2.2.2.2.2.2.2; let i_d := i_c.2.2.2.2.2.2.2.2; let i_e := i_d.2.2.2.2.2.2.2.2; f42.l30 k j i.1 i.2.1 i.2.2.1 i.2.2.2.1 i.2.2.2.2.1 i.2.2.2.2.2.1 i.2.2.2.2.2.2.1 i.2.2.2.2.2.2.2.1 i_a.1 i_a.2.1 i_a.2.2.1 i_a.2.2.2.1 i_a.2.2.2.2.1 i_a.2.2.2.2.2.1 i_a.2.2.2.2.2.2.1 i_a.2.2.2.2.2.2.2.1 i_b.1 i_b.2.1 i_b.2.2.1 i_b.2.2.2.1 i_b.2.2.2.2.1 i_b.2.2.2.2.2.1 i_b.2.2.2.2.2.2.1 i_b.2.2.2.2.2.2.2.1 i_c.1 i_c.2.1 i_c.2.2.1 i_c.2.2.2.1 i_c.2.2.2.2.1 i_c.2.2.2.2.2.1 i_c.2.2.2.2.2.2.1 i_c.2.2.2.2.2.2.2.1 i_d.1 i_d.2.1 i_d.2.2.1 i_d.2.2.2.1 i_d.2.2.2.2.1 i_d.2.2.2.2.2.1 i_d.2.2.2.2.2.2.1 i_d.2.2.2.2.2.2.2.1 i_e.1 i_e.2) f42.l30.w (fun rec_ ret i => let i_a := i.2.2.2.2.2.2.2.2; let i_b := i_a.2.2.2.2.2.2.2.2; let i_c := i_b.2.2.2.2.2.2.2.2; let i_d := i_c.2.2.2.2.2.2.2.2; let i_e := i_d.2.2.2.2.2.2.2.2; f42.l30.step k (fun a171 s172 b173 a174 a175 xs176 s177 b178 a179 a180 xs181 xs182 xs183 a184 s185 s186 a187 a188 a189 a190 b191 b192 xs193 a194 s195 s196 a197 a198 a199 a200 b201 b202 xs203 a204 s205 s206 a207 a208 a209 a210 b211 b212 => rec_ (a171, s172, b173, a174, a175, xs176, s177, b178, a179, a180, xs181, xs182, xs183, a184, s185, s186, a187, a188, a189, a190, b191, b192, xs193, a194, s195, s196, a197, a198, a199, a200, b201, b202, xs203, a204, s205, s206, a207, a208, a209, a210, b211, b212)) ret i.1 i.2.1 i.2.2.1 i.2.2.2.1 i.2.2.2.2.1 i.2.2.2.2.2.1 i.2.2.2.2.2.2.1 i.2.2.2.2.2.2.2.1 i_a.1 i_a.2.1 i_a.2.2.1 i_a.2.2.2.1 i_a.2.2.2.2.1 i_a.2.2.2.2.2.1 i_a.2.2.2.2.2.2.1 i_a.2.2.2.2.2.2.2.1 i_b.1 i_b.2.1 i_b.2.2.1 i_b.2.2.2.1 i_b.2.2.2.2.1 i_b.2.2.2.2.2.1 i_b.2.2.2.2.2.2.1 i_b.2.2.2.2.2.2.2.1 i_c.1 i_c.2.1 i_c.2.2.1 i_c.2.2.2.1 i_c.2.2.2.2.1 i_c.2.2.2.2.2.1 i_c.2.2.2.2.2.2.1 i_c.2.2.2.2.2.2.2.1 i_d.1 i_d.2.1 i_d.2.2.1 i_d.2.2.2.1 i_d.2.2.2.2.1 i_d.2.2.2.2.2.1 i_d.2.2.2.2.2.2.1 i_d.2.2.2.2.2.2.2.1 i_e.1 i_e.2)
  (fun _ => rfl) (fun _ _ => rfl) (fun rec_ g i => let i_a := i.2.2.2.2.2.2.2.2; let i_b := i_a.2.2.2.2.2.2.2.2; let i_c := i_b.2.2.2.2.2.2.2.2; let i_d := i_c.2.2.2.2.2.2.2.2; let i_e := i_d.2.2.2.2.2.2.2.2; f42.l30.nat k _ g i.1 i.2.1 i.2.2.1 i.2.2.2.1 i.2.2.2.2.1 i.2.2.2.2.2.1 i.2.2.2.2.2.2.1 i.2.2.2.2.2.2.2.1 i_a.1 i_a.2.1 i_a.2.2.1 i_a.2.2.2.1 i_a.2.2.2.2.1 i_a.2.2.2.2.2.1 i_a.2.2.2.2.2.2.1 i_a.2.2.2.2.2.2.2.1 i_b.1 i_b.2.1 i_b.2.2.1 i_b.2.2.2.1 i_b.2.2.2.2.1 i_b.2.2.2.2.2.1 i_b.2.2.2.2.2.2.1 i_b.2.2.2.2.2.2.2.1 i_c.1 i_c.2.1 i_c.2.2.1 i_c.2.2.2.1 i_c.2.2.2.2.1 i_c.2.2.2.2.2.1 i_c.2.2.2.2.2.2.1 i_c.2.2.2.2.2.2.2.1 i_d.1 i_d.2.1 i_d.2.2.1 i_d.2.2.2.1 i_d.2.2.2.2.1 i_d.2.2.2.2.2.1 i_d.2.2.2.2.2.2.1 i_d.2.2.2.2.2.2.2.1 i_e.1 i_e.2) (fun {R} i0 i rec_ K => by kernel_rfl) k (a171, s172, b173, a174, a175, xs176, s177, b178, a179, a180, xs181, xs182, xs183, a184, s185, s186, a187, a188, a189, a190, b191, b192, xs193, a194, s195, s196, a197, a198, a199, a200, b201, b202, xs203, a204, s205, s206, a207, a208, a209, a210, b211, b212)
theorem f42.l30.all (k : Nat) (S : St env) : GoodL (f42.X k) (nthC 0 (loopsOf (bodyOf Try.f42))) S (f42.l30.hd k S.ts S.m S.n) := by
 obtain ⟨ts_, m_, n_⟩ := S
 show GoodL _ _ _ (f42.l30.hd k ts_ m_ n_)
 unfold f42.l30.hd
 have hg_ := f42.l30.good k
 exact rdL
theorem f42.nat {R : Type} (k : Nat) (g : _ → Option R) (s1 b2 a3 a4 xs5 s6 b7 a8 a9 xs10 xs11 xs12 a13 s14 s15 a16 a17 a18 a19 b20 b21 xs22 a23 a24) : f42.step k g s1 b2 a3 a4 xs5 s6 b7 a8 a9 xs10 xs11 xs12 a13 s14 s15 a16 a17 a18 a19 b20 b21 xs22 a23 a24 = (f42 k s1 b2 a3 a4 xs5 s6 b7 a8 a9 xs10 xs11 xs12 a13 s14 s15 a16 a17 a18 a19 b20 b21 xs22 a23 a24).bind g := by
 simp only [f42, f42.step, bind_ite, bind_sum, oA, oS, oN]
theorem f42.ev (k : Nat) (s1 : ByteArray) (b2 : Bool) (a3 a4 : Int) (xs5 : List S66) (s6 : ByteArray) (b7 : Bool) (a8 a9 : Int) (xs10 : List S66) (xs11 : List ByteArray) (xs12 : List Int) (a13 : Int) (s14 s15 : ByteArray) (a16 a17 a18 a19 : Int) (b20 b21 : Bool) (xs22 : List Int) (a23 a24 : Int) : evF (f42.X k) (bodyOf Try.f42) Try.f42.ntmps Try.f42.results.toList [.g [.s (.string s1), .s (.bool b2), .s (.int .i64 a3), .s (.int .i64 a4), .sl 66 xs5, .s (.string s6), .s (.bool b7), .s (.int .i64 a8), .s (.int .i64 a9), .sl 66 xs10, .sl 9 xs11, .sl 3 xs12], .g [.s (.int .i64 a13), .s (.string s14), .s (.string s15), .s (.int .i64 a16), .s (.int .i64 a17), .s (.int .i64 a18), .s (.int .i64 a19), .s (.bool b20), .s (.bool b21), .sl 5 xs22], .v (.c (.s (.int .i64 a23))), .v (.c (.s (.int .i64 a24)))] = f42.step k (fun x => f42.w x some) s1 b2 a3 a4 xs5 s6 b7 a8 a9 xs10 xs11 xs12 a13 s14 s15 a16 a17 a18 a19 b20 b21 xs22 a23 a24 := by kernel_rfl
theorem f42.hok (k : Nat) : HOK (f42.X k) (bodyOf Try.f42) where
 l := allP_mem (by exact ⟨ls_of (h0 := fun S => f42.l30.hd k S.ts S.m S.n) (by kernel_rfl) (f42.l30.all k), trivial⟩)
 j := allP_mem (by exact ⟨js_of (h0 := fun S => f42.j11.hd k S.ts S.m S.n) (by kernel_rfl) (f42.j11.all k), trivial⟩)
 q := allP_mem (by exact ⟨qs_of (h0 := fun S => f42.q100005.hd k S.ts S.m S.n) (by kernel_rfl) (f42.q100005.all k), qs_of (h0 := fun S => f42.q100007.hd k S.ts S.m S.n) (by kernel_rfl) (f42.q100007.all k), qs_of (h0 := fun S => f42.q100014.hd k S.ts S.m S.n) (by kernel_rfl) (f42.q100014.all k), trivial⟩)
theorem f42.sound0 (k : Nat) : SoundC env Try.prog 42 (f42.hd k) := by
 intro ps_
 show GoodC _ _ _ ps_ (f42.hd k ps_)
 unfold f42.hd
 have hF_ := fun_sound envOK (cs_sound _ (by exact ⟨⟨f60.sound k, f60.fnok⟩, ⟨f61.sound k, f61.fnok⟩, ⟨f110.sound k, f110.fnok⟩, ⟨f111.sound k, f111.fnok⟩, ⟨f112.sound k, f112.fnok⟩, ⟨f113.sound k, f113.fnok⟩, trivial⟩)) (f42.hok k) Try.func42 rfl
 have hev_ := f42.ev k
 have hnat_ := fun g_ => f42.nat k (R := Res env) g_
 exact rdC
theorem f42.sound (k : Nat) : SoundC env Try.prog 42 (f42.e k).F := soundC_coer (f42.sound0 k) [[.no, .no, .no, .no, .rd 66, .no, .no, .no, .no, .rd 66, .rd 9, .rd 3], [.no, .no, .no, .no, .no, .no, .no, .no, .no, .rd 5], [.no], [.no]]
theorem f42.fnok : FnOK Try.prog 42 := fn_ok Try.func42 (by kernel_rfl) rfl
def f18.step {R : Type} (k : Nat) (ret : Bool → Option R) (a1 : Int) (s2 s3 : ByteArray) (a4 a5 a6 a7 : Int) (b8 b9 : Bool) (xs10 : List Int) (a11 : Int) (s12 s13 : ByteArray) (a14 a15 a16 a17 : Int) (b18 b19 : Bool) (xs20 : List Int) : Option R :=
 if (decide (a1 = a11)) = true then
 if (decide (ByteArray.toList s2 = ByteArray.toList s12)) = true then
 if (decide (ByteArray.toList s3 = ByteArray.toList s13)) = true then
 if (decide (a4 = a14)) = true then
 if (decide (a5 = a15)) = true then
 if (decide (a6 = a16)) = true then
 if (decide (a7 = a17)) = true then
 if (b8 == b18) = true then
 if (b9 == b19) = true then
 ret (decide (ByteArray.toList (strOf xs10) = ByteArray.toList (strOf xs20)))
 else
 ret false
 else
 ret false
 else
 ret false
 else
 ret false
 else
 ret false
 else
 ret false
 else
 ret false
 else
 ret false
 else
 ret false
def f18 (k : Nat) (a1 : Int) (s2 s3 : ByteArray) (a4 a5 a6 a7 : Int) (b8 b9 : Bool) (xs10 : List Int) (a11 : Int) (s12 s13 : ByteArray) (a14 a15 a16 a17 : Int) (b18 b19 : Bool) (xs20 : List Int) := f18.step k some a1 s2 s3 a4 a5 a6 a7 b8 b9 xs10 a11 s12 s13 a14 a15 a16 a17 b18 b19 xs20
def f18.w {R : Type} : Bool → (Res env → Option R) → Option R := fun t21 K => K ⟨.v (.c (.s (.bool t21))), [[], []]⟩
theorem f18.wn (x : Bool) : ∃ res, ∀ {R : Type} (K : Res env → Option R), f18.w x K = K res := by
 exact ⟨_, fun _ => rfl⟩
def f18.hd (k : Nat) (ps_ : List (P2 env)) : Cl env :=
 gC Cl.no ps_ fun p_ ps_ => qG Cl.no p_ fun cs_ => dI Cl.no cs_ fun a1 cs_ => dS Cl.no cs_ fun s2 cs_ => dS Cl.no cs_ fun s3 cs_ => dI Cl.no cs_ fun a4 cs_ => dI Cl.no cs_ fun a5 cs_ => dI Cl.no cs_ fun a6 cs_ => dI Cl.no cs_ fun a7 cs_ => dB Cl.no cs_ fun b8 cs_ => dB Cl.no cs_ fun b9 cs_ => dM Cl.no 5 cs_ fun xs10 cs_ => gE Cl.no cs_ <| gC Cl.no ps_ fun p_ ps_ => qG Cl.no p_ fun cs_ => dI Cl.no cs_ fun a11 cs_ => dS Cl.no cs_ fun s12 cs_ => dS Cl.no cs_ fun s13 cs_ => dI Cl.no cs_ fun a14 cs_ => dI Cl.no cs_ fun a15 cs_ => dI Cl.no cs_ fun a16 cs_ => dI Cl.no cs_ fun a17 cs_ => dB Cl.no cs_ fun b18 cs_ => dB Cl.no cs_ fun b19 cs_ => dM Cl.no 5 cs_ fun xs20 cs_ => gE Cl.no cs_ <| gE Cl.no ps_ <| { α := Bool, o := f18 k a1 s2 s3 a4 a5 a6 a7 b8 b9 xs10 a11 s12 s13 a14 a15 a16 a17 b18 b19 xs20, w := f18.w, nat := fun x _ => f18.wn x }
def f18.e (k : Nat) : Entry env := ⟨fun ps => f18.hd k (coer [[.no, .no, .no, .no, .no, .no, .no, .no, .no, .rd 5], [.no, .no, .no, .no, .no, .no, .no, .no, .no, .rd 5]] ps), [], []⟩
def f18.X (k : Nat) : Ctx env := X0
theorem f18.nat {R : Type} (k : Nat) (g : _ → Option R) (a1 s2 s3 a4 a5 a6 a7 b8 b9 xs10 a11 s12 s13 a14 a15 a16 a17 b18 b19 xs20) : f18.step k g a1 s2 s3 a4 a5 a6 a7 b8 b9 xs10 a11 s12 s13 a14 a15 a16 a17 b18 b19 xs20 = (f18 k a1 s2 s3 a4 a5 a6 a7 b8 b9 xs10 a11 s12 s13 a14 a15 a16 a17 b18 b19 xs20).bind g := by
 simp only [f18, f18.step, bind_ite, bind_sum, oA, oS, oN]
theorem f18.ev (k : Nat) (a1 : Int) (s2 s3 : ByteArray) (a4 a5 a6 a7 : Int) (b8 b9 : Bool) (xs10 : List Int) (a11 : Int) (s12 s13 : ByteArray) (a14 a15 a16 a17 : Int) (b18 b19 : Bool) (xs20 : List Int) : evF (f18.X k) (bodyOf Try.f18) Try.f18.ntmps Try.f18.results.toList [.g [.s (.int .i64 a1), .s (.string s2), .s (.string s3), .s (.int .i64 a4), .s (.int .i64 a5), .s (.int .i64 a6), .s (.int .i64 a7), .s (.bool b8), .s (.bool b9), .sl 5 xs10], .g [.s (.int .i64 a11), .s (.string s12), .s (.string s13), .s (.int .i64 a14), .s (.int .i64 a15), .s (.int .i64 a16), .s (.int .i64 a17), .s (.bool b18), .s (.bool b19), .sl 5 xs20]] = f18.step k (fun x => f18.w x some) a1 s2 s3 a4 a5 a6 a7 b8 b9 xs10 a11 s12 s13 a14 a15 a16 a17 b18 b19 xs20 := by kernel_rfl
theorem f18.hok (k : Nat) : HOK (f18.X k) (bodyOf Try.f18) where
 l := allP_mem (by exact trivial)
 j := allP_mem (by exact trivial)
 q := allP_mem (by exact trivial)
theorem f18.sound0 (k : Nat) : SoundC env Try.prog 18 (f18.hd k) := by
 intro ps_
 show GoodC _ _ _ ps_ (f18.hd k ps_)
 unfold f18.hd
 have hF_ := fun_sound envOK (cs_sound _ (by exact trivial)) (f18.hok k) Try.func18 rfl
 have hev_ := f18.ev k
 have hnat_ := fun g_ => f18.nat k (R := Res env) g_
 exact rdC
theorem f18.sound (k : Nat) : SoundC env Try.prog 18 (f18.e k).F := soundC_coer (f18.sound0 k) [[.no, .no, .no, .no, .no, .no, .no, .no, .no, .rd 5], [.no, .no, .no, .no, .no, .no, .no, .no, .no, .rd 5]]
theorem f18.fnok : FnOK Try.prog 18 := fn_ok Try.func18 (by kernel_rfl) rfl
def f43.step {R : Type} (k : Nat) (ret : ((List Int) × Int) → Option R) (a1 : Int) (s2 s3 : ByteArray) (a4 a5 a6 a7 : Int) (b8 b9 : Bool) (xs10 : List Int) : Option R :=
 (f60 k a1 s2 s3 a4 a5 a6 a7 b8 b9 xs10).bind fun t11 => if (!t11) = true then
 ret (([] : List Int), 1)
 else
 (f112 k a1 s2 s3 a4 a5 a6 a7 b8 b9 xs10).bind fun t12 => ret (t12, 0)
def f43 (k : Nat) (a1 : Int) (s2 s3 : ByteArray) (a4 a5 a6 a7 : Int) (b8 b9 : Bool) (xs10 : List Int) := f43.step k some a1 s2 s3 a4 a5 a6 a7 b8 b9 xs10
def f43.w {R : Type} : ((List Int) × Int) → (Res env → Option R) → Option R := fun t13 K => K ⟨.tup [.c (.own true 5 t13.1), .c (.s (.int .i64 t13.2))], [[]]⟩
theorem f43.wn (x : ((List Int) × Int)) : ∃ res, ∀ {R : Type} (K : Res env → Option R), f43.w x K = K res := by
 exact ⟨_, fun _ => rfl⟩
def f43.hd (k : Nat) (ps_ : List (P2 env)) : Cl env :=
 gC Cl.no ps_ fun p_ ps_ => qG Cl.no p_ fun cs_ => dI Cl.no cs_ fun a1 cs_ => dS Cl.no cs_ fun s2 cs_ => dS Cl.no cs_ fun s3 cs_ => dI Cl.no cs_ fun a4 cs_ => dI Cl.no cs_ fun a5 cs_ => dI Cl.no cs_ fun a6 cs_ => dI Cl.no cs_ fun a7 cs_ => dB Cl.no cs_ fun b8 cs_ => dB Cl.no cs_ fun b9 cs_ => dM Cl.no 5 cs_ fun xs10 cs_ => gE Cl.no cs_ <| gE Cl.no ps_ <| { α := (List Int) × Int, o := f43 k a1 s2 s3 a4 a5 a6 a7 b8 b9 xs10, w := f43.w, nat := fun x _ => f43.wn x }
def f43.e (k : Nat) : Entry env := ⟨fun ps => f43.hd k (coer [[.no, .no, .no, .no, .no, .no, .no, .no, .no, .rd 5]] ps), [], []⟩
def f43.X (k : Nat) : Ctx env := { X0 with C := lookE [(60, f60.e k), (112, f112.e k)] }
theorem f43.nat {R : Type} (k : Nat) (g : _ → Option R) (a1 s2 s3 a4 a5 a6 a7 b8 b9 xs10) : f43.step k g a1 s2 s3 a4 a5 a6 a7 b8 b9 xs10 = (f43 k a1 s2 s3 a4 a5 a6 a7 b8 b9 xs10).bind g := by
 simp only [f43, f43.step, bind_ite, bind_sum, oA, oS, oN]
theorem f43.ev (k : Nat) (a1 : Int) (s2 s3 : ByteArray) (a4 a5 a6 a7 : Int) (b8 b9 : Bool) (xs10 : List Int) : evF (f43.X k) (bodyOf Try.f43) Try.f43.ntmps Try.f43.results.toList [.g [.s (.int .i64 a1), .s (.string s2), .s (.string s3), .s (.int .i64 a4), .s (.int .i64 a5), .s (.int .i64 a6), .s (.int .i64 a7), .s (.bool b8), .s (.bool b9), .sl 5 xs10]] = f43.step k (fun x => f43.w x some) a1 s2 s3 a4 a5 a6 a7 b8 b9 xs10 := by kernel_rfl
theorem f43.hok (k : Nat) : HOK (f43.X k) (bodyOf Try.f43) where
 l := allP_mem (by exact trivial)
 j := allP_mem (by exact trivial)
 q := allP_mem (by exact trivial)
theorem f43.sound0 (k : Nat) : SoundC env Try.prog 43 (f43.hd k) := by
 intro ps_
 show GoodC _ _ _ ps_ (f43.hd k ps_)
 unfold f43.hd
 have hF_ := fun_sound envOK (cs_sound _ (by exact ⟨⟨f60.sound k, f60.fnok⟩, ⟨f112.sound k, f112.fnok⟩, trivial⟩)) (f43.hok k) Try.func43 rfl
 have hev_ := f43.ev k
 have hnat_ := fun g_ => f43.nat k (R := Res env) g_
 exact rdC
theorem f43.sound (k : Nat) : SoundC env Try.prog 43 (f43.e k).F := soundC_coer (f43.sound0 k) [[.no, .no, .no, .no, .no, .no, .no, .no, .no, .rd 5]]
theorem f43.fnok : FnOK Try.prog 43 := fn_ok Try.func43 (by kernel_rfl) rfl
def f45.step {R : Type} (k : Nat) (ret : Int → Option R) (xs1 : List Int) : Option R :=
 if (decide (((List.length xs1) : Int) > 65536)) = true then
 ret 0
 else
 (f114 k xs1).bind fun t2 => ret t2
def f45 (k : Nat) (xs1 : List Int) := f45.step k some xs1
def f45.w {R : Type} : Int → (Res env → Option R) → Option R := fun t3 K => K ⟨.v (.c (.s (.int .i64 t3))), [[]]⟩
theorem f45.wn (x : Int) : ∃ res, ∀ {R : Type} (K : Res env → Option R), f45.w x K = K res := by
 exact ⟨_, fun _ => rfl⟩
def f45.hd (k : Nat) (ps_ : List (P2 env)) : Cl env :=
 pM Cl.no 5 ps_ fun xs1 ps_ => gE Cl.no ps_ <| { α := Int, o := f45 k xs1, w := f45.w, nat := fun x _ => f45.wn x }
def f45.e (k : Nat) : Entry env := ⟨fun ps => f45.hd k (coer [[.rd 5]] ps), [], []⟩
def f45.X (k : Nat) : Ctx env := { X0 with C := lookE [(114, f114.e k)] }
theorem f45.nat {R : Type} (k : Nat) (g : _ → Option R) (xs1) : f45.step k g xs1 = (f45 k xs1).bind g := by
 simp only [f45, f45.step, bind_ite, bind_sum, oA, oS, oN]
theorem f45.ev (k : Nat) (xs1 : List Int) : evF (f45.X k) (bodyOf Try.f45) Try.f45.ntmps Try.f45.results.toList [.v (.c (.sl 5 xs1))] = f45.step k (fun x => f45.w x some) xs1 := by kernel_rfl
theorem f45.hok (k : Nat) : HOK (f45.X k) (bodyOf Try.f45) where
 l := allP_mem (by exact trivial)
 j := allP_mem (by exact trivial)
 q := allP_mem (by exact trivial)
theorem f45.sound0 (k : Nat) : SoundC env Try.prog 45 (f45.hd k) := by
 intro ps_
 show GoodC _ _ _ ps_ (f45.hd k ps_)
 unfold f45.hd
 have hF_ := fun_sound envOK (cs_sound _ (by exact ⟨⟨f114.sound k, f114.fnok⟩, trivial⟩)) (f45.hok k) Try.func45 rfl
 have hev_ := f45.ev k
 have hnat_ := fun g_ => f45.nat k (R := Res env) g_
 exact rdC
theorem f45.sound (k : Nat) : SoundC env Try.prog 45 (f45.e k).F := soundC_coer (f45.sound0 k) [[.rd 5]]
theorem f45.fnok : FnOK Try.prog 45 := fn_ok Try.func45 (by kernel_rfl) rfl
def f115.step {R : Type} (k : Nat) (ret : Bool → Option R) (s1 s2 : ByteArray) : Option R :=
 if (decide ((((ByteArray.size s1) : Nat) : Int) = (((ByteArray.size s2) : Nat) : Int))) = true then
 if (decide ((((ByteArray.size s1) : Nat) : Int) = 4)) = false then
 ret (decide ((((ByteArray.size s1) : Nat) : Int) = 16))
 else
 ret true
 else
 ret false
def f115 (k : Nat) (s1 s2 : ByteArray) := f115.step k some s1 s2
def f115.w {R : Type} : Bool → (Res env → Option R) → Option R := fun t3 K => K ⟨.v (.c (.s (.bool t3))), [[], []]⟩
theorem f115.wn (x : Bool) : ∃ res, ∀ {R : Type} (K : Res env → Option R), f115.w x K = K res := by
 exact ⟨_, fun _ => rfl⟩
def f115.hd (k : Nat) (ps_ : List (P2 env)) : Cl env :=
 pS Cl.no ps_ fun s1 ps_ => pS Cl.no ps_ fun s2 ps_ => gE Cl.no ps_ <| { α := Bool, o := f115 k s1 s2, w := f115.w, nat := fun x _ => f115.wn x }
def f115.e (k : Nat) : Entry env := ⟨f115.hd k, [], []⟩
def f115.X (k : Nat) : Ctx env := X0
theorem f115.nat {R : Type} (k : Nat) (g : _ → Option R) (s1 s2) : f115.step k g s1 s2 = (f115 k s1 s2).bind g := by
 simp only [f115, f115.step, bind_ite, bind_sum, oA, oS, oN]
theorem f115.ev (k : Nat) (s1 s2 : ByteArray) : evF (f115.X k) (bodyOf Try.f115) Try.f115.ntmps Try.f115.results.toList [.v (.c (.s (.string s1))), .v (.c (.s (.string s2)))] = f115.step k (fun x => f115.w x some) s1 s2 := by kernel_rfl
theorem f115.hok (k : Nat) : HOK (f115.X k) (bodyOf Try.f115) where
 l := allP_mem (by exact trivial)
 j := allP_mem (by exact trivial)
 q := allP_mem (by exact trivial)
theorem f115.sound (k : Nat) : SoundC env Try.prog 115 ((f115.e k).F) := by
 intro ps_
 show GoodC _ _ _ ps_ (f115.hd k ps_)
 unfold f115.hd
 have hF_ := fun_sound envOK (cs_sound _ (by exact trivial)) (f115.hok k) Try.func115 rfl
 have hev_ := f115.ev k
 have hnat_ := fun g_ => f115.nat k (R := Res env) g_
 exact rdC
theorem f115.fnok : FnOK Try.prog 115 := fn_ok Try.func115 (by kernel_rfl) rfl
def f116.step {R : Type} (k : Nat) (ret : ((List Int)) → Option R) (s1 s2 : ByteArray) (a3 a4 : Int) : Option R :=
 if ByteArray.size s1 + ByteArray.size s2 ≤ maxN then
 if ByteArray.size (s1 ++ s2) ≤ maxN then
 if (decide ((((ByteArray.size s1) : Nat) : Int) = 4)) = true then
 if (List.length (bytesOf (s1 ++ s2)) + List.length ([0, (IntKind.u8.wrap a3)] : List Int)) * 1 ≤ maxN then
 (f111 k a4).bind fun t5 => if (List.length ((bytesOf (s1 ++ s2)) ++ ([0, (IntKind.u8.wrap a3)] : List Int)) + List.length t5) * 1 ≤ maxN then
 ret (((bytesOf (s1 ++ s2)) ++ ([0, (IntKind.u8.wrap a3)] : List Int)) ++ t5)
 else none
 else none
 else
 if (List.length (bytesOf (s1 ++ s2)) + List.length ([0, 0] : List Int)) * 1 ≤ maxN then
 (f111 k a4).bind fun t6 => if (List.length ((bytesOf (s1 ++ s2)) ++ ([0, 0] : List Int)) + List.length t6) * 1 ≤ maxN then
 if (List.length (((bytesOf (s1 ++ s2)) ++ ([0, 0] : List Int)) ++ t6) + List.length ([0, 0, 0, (IntKind.u8.wrap a3)] : List Int)) * 1 ≤ maxN then
 ret ((((bytesOf (s1 ++ s2)) ++ ([0, 0] : List Int)) ++ t6) ++ ([0, 0, 0, (IntKind.u8.wrap a3)] : List Int))
 else none
 else none
 else none
 else none
 else none
def f116 (k : Nat) (s1 s2 : ByteArray) (a3 a4 : Int) := f116.step k some s1 s2 a3 a4
def f116.w {R : Type} : ((List Int)) → (Res env → Option R) → Option R := fun t7 K => K ⟨.v (.c (.own true 5 t7)), [[], [], [], []]⟩
theorem f116.wn (x : ((List Int))) : ∃ res, ∀ {R : Type} (K : Res env → Option R), f116.w x K = K res := by
 exact ⟨_, fun _ => rfl⟩
def f116.hd (k : Nat) (ps_ : List (P2 env)) : Cl env :=
 pS Cl.no ps_ fun s1 ps_ => pS Cl.no ps_ fun s2 ps_ => pI Cl.no ps_ fun a3 ps_ => pI Cl.no ps_ fun a4 ps_ => gE Cl.no ps_ <| { α := (List Int), o := f116 k s1 s2 a3 a4, w := f116.w, nat := fun x _ => f116.wn x }
def f116.e (k : Nat) : Entry env := ⟨f116.hd k, [], []⟩
def f116.X (k : Nat) : Ctx env := { X0 with C := lookE [(111, f111.e k)] }
theorem f116.nat {R : Type} (k : Nat) (g : _ → Option R) (s1 s2 a3 a4) : f116.step k g s1 s2 a3 a4 = (f116 k s1 s2 a3 a4).bind g := by
 simp only [f116, f116.step, bind_ite, bind_sum, oA, oS, oN]
theorem f116.ev (k : Nat) (s1 s2 : ByteArray) (a3 a4 : Int) : evF (f116.X k) (bodyOf Try.f116) Try.f116.ntmps Try.f116.results.toList [.v (.c (.s (.string s1))), .v (.c (.s (.string s2))), .v (.c (.s (.int .i64 a3))), .v (.c (.s (.int .i64 a4)))] = f116.step k (fun x => f116.w x some) s1 s2 a3 a4 := by kernel_rfl
theorem f116.hok (k : Nat) : HOK (f116.X k) (bodyOf Try.f116) where
 l := allP_mem (by exact trivial)
 j := allP_mem (by exact trivial)
 q := allP_mem (by exact trivial)
theorem f116.sound (k : Nat) : SoundC env Try.prog 116 ((f116.e k).F) := by
 intro ps_
 show GoodC _ _ _ ps_ (f116.hd k ps_)
 unfold f116.hd
 have hF_ := fun_sound envOK (cs_sound _ (by exact ⟨⟨f111.sound k, f111.fnok⟩, trivial⟩)) (f116.hok k) Try.func116 rfl
 have hev_ := f116.ev k
 have hnat_ := fun g_ => f116.nat k (R := Res env) g_
 exact rdC
theorem f116.fnok : FnOK Try.prog 116 := fn_ok Try.func116 (by kernel_rfl) rfl
def f46.step {R : Type} (k : Nat) (ret : (Int × Int) → Option R) (s1 s2 : ByteArray) (a3 : Int) (xs4 : List Int) : Option R :=
 (f115 k s1 s2).bind fun t5 => if (!t5) = true then
 ret (0, 1)
 else
 (f61 k a3 0 255).bind fun t6 => if (!t6) = false then
 if (decide (((List.length xs4) : Int) > 65535)) = true then
 ret (0, 4)
 else
 (f116 k s1 s2 a3 ((List.length xs4) : Int)).bind fun t7 => if (List.length t7 + List.length xs4) * 1 ≤ maxN then
 (f113 k (t7 ++ xs4)).bind fun t8 => ret (t8, 0)
 else none
 else
 ret (0, 4)
def f46 (k : Nat) (s1 s2 : ByteArray) (a3 : Int) (xs4 : List Int) := f46.step k some s1 s2 a3 xs4
def f46.w {R : Type} : (Int × Int) → (Res env → Option R) → Option R := fun t9 K => K ⟨.tup [.c (.s (.int .i64 t9.1)), .c (.s (.int .i64 t9.2))], [[], [], [], []]⟩
theorem f46.wn (x : (Int × Int)) : ∃ res, ∀ {R : Type} (K : Res env → Option R), f46.w x K = K res := by
 exact ⟨_, fun _ => rfl⟩
def f46.hd (k : Nat) (ps_ : List (P2 env)) : Cl env :=
 pS Cl.no ps_ fun s1 ps_ => pS Cl.no ps_ fun s2 ps_ => pI Cl.no ps_ fun a3 ps_ => pM Cl.no 5 ps_ fun xs4 ps_ => gE Cl.no ps_ <| { α := Int × Int, o := f46 k s1 s2 a3 xs4, w := f46.w, nat := fun x _ => f46.wn x }
def f46.e (k : Nat) : Entry env := ⟨fun ps => f46.hd k (coer [[.no], [.no], [.no], [.rd 5]] ps), [], []⟩
def f46.X (k : Nat) : Ctx env := { X0 with C := lookE [(61, f61.e k), (113, f113.e k), (115, f115.e k), (116, f116.e k)] }
theorem f46.nat {R : Type} (k : Nat) (g : _ → Option R) (s1 s2 a3 xs4) : f46.step k g s1 s2 a3 xs4 = (f46 k s1 s2 a3 xs4).bind g := by
 simp only [f46, f46.step, bind_ite, bind_sum, oA, oS, oN]
theorem f46.ev (k : Nat) (s1 s2 : ByteArray) (a3 : Int) (xs4 : List Int) : evF (f46.X k) (bodyOf Try.f46) Try.f46.ntmps Try.f46.results.toList [.v (.c (.s (.string s1))), .v (.c (.s (.string s2))), .v (.c (.s (.int .i64 a3))), .v (.c (.sl 5 xs4))] = f46.step k (fun x => f46.w x some) s1 s2 a3 xs4 := by kernel_rfl
theorem f46.hok (k : Nat) : HOK (f46.X k) (bodyOf Try.f46) where
 l := allP_mem (by exact trivial)
 j := allP_mem (by exact trivial)
 q := allP_mem (by exact trivial)
theorem f46.sound0 (k : Nat) : SoundC env Try.prog 46 (f46.hd k) := by
 intro ps_
 show GoodC _ _ _ ps_ (f46.hd k ps_)
 unfold f46.hd
 have hF_ := fun_sound envOK (cs_sound _ (by exact ⟨⟨f61.sound k, f61.fnok⟩, ⟨f113.sound k, f113.fnok⟩, ⟨f115.sound k, f115.fnok⟩, ⟨f116.sound k, f116.fnok⟩, trivial⟩)) (f46.hok k) Try.func46 rfl
 have hev_ := f46.ev k
 have hnat_ := fun g_ => f46.nat k (R := Res env) g_
 exact rdC
theorem f46.sound (k : Nat) : SoundC env Try.prog 46 (f46.e k).F := soundC_coer (f46.sound0 k) [[.no], [.no], [.no], [.rd 5]]
theorem f46.fnok : FnOK Try.prog 46 := fn_ok Try.func46 (by kernel_rfl) rfl
def f7.step {R : Type} (k : Nat) (ret : Bool → Option R) (xs1 xs2 : List Int) : Option R :=
 if (decide (((List.length xs1) : Int) > 1048576)) = false then
 if (decide (((List.length xs2) : Int) > 1048576)) = true then
 ret true
 else
 (f39 k xs1).bind fun t3 => (let t3_0 := t3.2.2.1; let t3_1 := t3.2.2.2.1; let t3_2 := t3.2.2.2.2.1; let t3_3 := t3.2.2.2.2.2.1; let t3_4 := t3.2.2.2.2.2.2.1; let t3_5 := t3.2.2.2.2.2.2.2.1; let t3_6 := t3.2.2.2.2.2.2.2.2.1; let t3_7 := t3.2.2.2.2.2.2.2.2.2.1; let t3_8 := t3.2.2.2.2.2.2.2.2.2.2.1; let t3_9 := t3.2.2.2.2.2.2.2.2.2.2.2; (f40 k xs2).bind fun t4 => (let t4_0 := t4.2.1; let t4_1 := t4.2.2.1; let t4_2 := t4.2.2.2.1; let t4_3 := t4.2.2.2.2.1; let t4_4 := t4.2.2.2.2.2.1; let t4_5 := t4.2.2.2.2.2.2.1; let t4_6 := t4.2.2.2.2.2.2.2.1; let t4_7 := t4.2.2.2.2.2.2.2.2.1; let t4_8 := t4.2.2.2.2.2.2.2.2.2; (f15 k xs2 0 3).bind fun t5 => if 0 ≤ t5 then
 if t5 < ((List.length ([10, 5, 11] : List Int) : Nat) : Int) then
 (f41 k t3.1 t3.2.1 t3_0 t3_1 t3_2 t3_3 t3_4 t3_5 t3_6 t3_7 t3_8 t3_9 t4.1 t4_0 t4_1 t4_2 t4_3 t4_4 t4_5 t4_6 t4_7 t4_8 (List.getD ([10, 5, 11] : List Int) (Int.toNat t5) 0) 1280).bind (Sum.elim (fun t6 => (let t6_0 := t6.2.2.1; let t6_1 := t6.2.2.2.1; let t6_2 := t6.2.2.2.2.1; let t6_3 := t6.2.2.2.2.2.1; let t6_4 := t6.2.2.2.2.2.2.1; let t6_5 := t6.2.2.2.2.2.2.2.1; let t6_6 := t6.2.2.2.2.2.2.2.2.2; let t6_7 := t6.2.2.2.2.2.2.2.2.1; (f42 k t3.1 t3.2.1 t3_0 t3_1 t3_2 t3_3 t3_4 t3_5 t3_6 t3_7 t3_8 t3_9 t4.1 t4_0 t4_1 t4_2 t4_3 t4_4 t4_5 t4_6 t4_7 t4_8 (List.getD ([10, 5, 11] : List Int) (Int.toNat t5) 0) 1280).bind (Sum.elim (fun t7 => if (decide (t6_6 ≠ t7.2.2.2.2.2.2.2.2.2)) = false then
 (f18 k t6.1 t6.2.1 t6_0 t6_1 t6_2 t6_3 t6_4 t6_5 t6_7 ([] : List Int) t7.1 t7.2.1 t7.2.2.1 t7.2.2.2.1 t7.2.2.2.2.1 t7.2.2.2.2.2.1 t7.2.2.2.2.2.2.1 t7.2.2.2.2.2.2.2.1 t7.2.2.2.2.2.2.2.2.1 ([] : List Int)).bind fun t8 => if (!t8) = true then
 ret false
 else
 if (decide (t6_6 ≠ 0)) = true then
 ret (decide (t6_6 = 9))
 else
 (f43 k t4.1 t4_0 t4_1 t4_2 t4_3 t4_4 t4_5 t4_6 t4_7 t4_8).bind fun t9 => (f41 k t3.1 t3.2.1 t3_0 t3_1 t3_2 t3_3 t3_4 t3_5 t3_6 t3_7 t3_8 t3_9 t6.1 t6.2.1 t6_0 t6_1 t6_2 t6_3 t6_4 t6_5 t6_7 ([] : List Int) (List.getD ([10, 5, 11] : List Int) (Int.toNat t5) 0) 1280).bind (Sum.elim (fun t10 => if (decide (ByteArray.toList t6_0 ≠ ByteArray.toList t4_0)) = false then
 ret false
 else
 ret false) (fun t11 => if (decide (ByteArray.toList t6_0 ≠ ByteArray.toList t4_0)) = false then
 ret false
 else
 ret false))
 else
 ret false) (fun t12 => if (decide (t6_6 ≠ t12.2.2.2.2.2.2.2.2.2.2)) = false then
 (f18 k t6.1 t6.2.1 t6_0 t6_1 t6_2 t6_3 t6_4 t6_5 t6_7 ([] : List Int) t12.1 t12.2.1 t12.2.2.1 t12.2.2.2.1 t12.2.2.2.2.1 t12.2.2.2.2.2.1 t12.2.2.2.2.2.2.1 t12.2.2.2.2.2.2.2.1 t12.2.2.2.2.2.2.2.2.1 t12.2.2.2.2.2.2.2.2.2.1).bind fun t13 => if (!t13) = true then
 ret false
 else
 if (decide (t6_6 ≠ 0)) = true then
 ret (decide (t6_6 = 9))
 else
 (f43 k t4.1 t4_0 t4_1 t4_2 t4_3 t4_4 t4_5 t4_6 t4_7 t4_8).bind fun t14 => (f41 k t3.1 t3.2.1 t3_0 t3_1 t3_2 t3_3 t3_4 t3_5 t3_6 t3_7 t3_8 t3_9 t6.1 t6.2.1 t6_0 t6_1 t6_2 t6_3 t6_4 t6_5 t6_7 ([] : List Int) (List.getD ([10, 5, 11] : List Int) (Int.toNat t5) 0) 1280).bind (Sum.elim (fun t15 => if (decide (ByteArray.toList t6_0 ≠ ByteArray.toList t4_0)) = false then
 ret false
 else
 ret false) (fun t16 => if (decide (ByteArray.toList t6_0 ≠ ByteArray.toList t4_0)) = false then
 ret false
 else
 ret false))
 else
 ret false)))) (fun t17 => (let t17_0 := t17.2.1; let t17_1 := t17.2.2.1; let t17_2 := t17.2.2.2.1; let t17_3 := t17.2.2.2.2.1; let t17_4 := t17.2.2.2.2.2.1; let t17_5 := t17.2.2.2.2.2.2.1; let t17_6 := t17.2.2.2.2.2.2.2.1; let t17_7 := t17.2.2.2.2.2.2.2.2.1; let t17_8 := t17.2.2.2.2.2.2.2.2.2.2; let t17_9 := t17.2.2.2.2.2.2.2.2.2.1; (f42 k t3.1 t3.2.1 t3_0 t3_1 t3_2 t3_3 t3_4 t3_5 t3_6 t3_7 t3_8 t3_9 t4.1 t4_0 t4_1 t4_2 t4_3 t4_4 t4_5 t4_6 t4_7 t4_8 (List.getD ([10, 5, 11] : List Int) (Int.toNat t5) 0) 1280).bind (Sum.elim (fun t18 => if (decide (t17_8 ≠ t18.2.2.2.2.2.2.2.2.2)) = false then
 (f18 k t17.1 t17_0 t17_1 t17_2 t17_3 t17_4 t17_5 t17_6 t17_7 t17_9 t18.1 t18.2.1 t18.2.2.1 t18.2.2.2.1 t18.2.2.2.2.1 t18.2.2.2.2.2.1 t18.2.2.2.2.2.2.1 t18.2.2.2.2.2.2.2.1 t18.2.2.2.2.2.2.2.2.1 ([] : List Int)).bind fun t19 => if (!t19) = true then
 ret false
 else
 if (decide (t17_8 ≠ 0)) = true then
 ret (decide (t17_8 = 9))
 else
 (f43 k t4.1 t4_0 t4_1 t4_2 t4_3 t4_4 t4_5 t4_6 t4_7 t4_8).bind fun t20 => (f41 k t3.1 t3.2.1 t3_0 t3_1 t3_2 t3_3 t3_4 t3_5 t3_6 t3_7 t3_8 t3_9 t17.1 t17_0 t17_1 t17_2 t17_3 t17_4 t17_5 t17_6 t17_7 t17_9 (List.getD ([10, 5, 11] : List Int) (Int.toNat t5) 0) 1280).bind (Sum.elim (fun t21 => if (decide (ByteArray.toList t17_1 ≠ ByteArray.toList t4_0)) = false then
 if (decide ((((List.length t17_9) : Nat) : Int) < 8)) = false then
 (f44 k t17.1 t17_0 t17_1 t17_2 t17_3 t17_4 t17_5 t17_6 t17_7 t17_9).bind fun t22 => if (!t22) = false then
 if (decide (t21.2.2.2.2.2.2.2.2.2 ≠ 9)) = false then
 if 8 ≤ ((List.length t17_9 : Nat) : Int) then
 if ((List.length t17_9 : Nat) : Int) ≤ ((List.length t17_9 : Nat) : Int) then
 if 0 ≤ (if 48 < (((List.length t20.1) : Nat) : Int) then 48 else (((List.length t20.1) : Nat) : Int)) then
 if (if 48 < (((List.length t20.1) : Nat) : Int) then 48 else (((List.length t20.1) : Nat) : Int)) ≤ ((List.length t20.1 : Nat) : Int) then
 if (decide (ByteArray.toList (strOf (List.take ((Int.toNat ((List.length t17_9 : Nat) : Int)) - 8) (List.drop 8 t17_9))) ≠ ByteArray.toList (strOf (List.take ((Int.toNat (if 48 < (((List.length t20.1) : Nat) : Int) then 48 else (((List.length t20.1) : Nat) : Int))) - 0) (List.drop 0 t20.1))))) = true then
 ret false
 else
 if (decide (t4.1 = 4)) = true then
 (f45 k t17_9).bind fun t23 => ret (decide (t23 = 0))
 else
 (f46 k t17_0 t17_1 58 t17_9).bind fun t24 => if (decide (t24.2 = 0)) = true then
 ret (decide (t24.1 = 0))
 else
 ret false
 else none
 else none
 else none
 else none
 else
 ret false
 else
 ret false
 else
 ret false
 else
 ret false) (fun t25 => if (decide (ByteArray.toList t17_1 ≠ ByteArray.toList t4_0)) = false then
 if (decide ((((List.length t17_9) : Nat) : Int) < 8)) = false then
 (f44 k t17.1 t17_0 t17_1 t17_2 t17_3 t17_4 t17_5 t17_6 t17_7 t17_9).bind fun t26 => if (!t26) = false then
 if (decide (t25.2.2.2.2.2.2.2.2.2.2 ≠ 9)) = false then
 if 8 ≤ ((List.length t17_9 : Nat) : Int) then
 if ((List.length t17_9 : Nat) : Int) ≤ ((List.length t17_9 : Nat) : Int) then
 if 0 ≤ (if 48 < (((List.length t20.1) : Nat) : Int) then 48 else (((List.length t20.1) : Nat) : Int)) then
 if (if 48 < (((List.length t20.1) : Nat) : Int) then 48 else (((List.length t20.1) : Nat) : Int)) ≤ ((List.length t20.1 : Nat) : Int) then
 if (decide (ByteArray.toList (strOf (List.take ((Int.toNat ((List.length t17_9 : Nat) : Int)) - 8) (List.drop 8 t17_9))) ≠ ByteArray.toList (strOf (List.take ((Int.toNat (if 48 < (((List.length t20.1) : Nat) : Int) then 48 else (((List.length t20.1) : Nat) : Int))) - 0) (List.drop 0 t20.1))))) = true then
 ret false
 else
 if (decide (t4.1 = 4)) = true then
 (f45 k t17_9).bind fun t27 => ret (decide (t27 = 0))
 else
 (f46 k t17_0 t17_1 58 t17_9).bind fun t28 => if (decide (t28.2 = 0)) = true then
 ret (decide (t28.1 = 0))
 else
 ret false
 else none
 else none
 else none
 else none
 else
 ret false
 else
 ret false
 else
 ret false
 else
 ret false))
 else
 ret false) (fun t29 => if (decide (t17_8 ≠ t29.2.2.2.2.2.2.2.2.2.2)) = false then
 (f18 k t17.1 t17_0 t17_1 t17_2 t17_3 t17_4 t17_5 t17_6 t17_7 t17_9 t29.1 t29.2.1 t29.2.2.1 t29.2.2.2.1 t29.2.2.2.2.1 t29.2.2.2.2.2.1 t29.2.2.2.2.2.2.1 t29.2.2.2.2.2.2.2.1 t29.2.2.2.2.2.2.2.2.1 t29.2.2.2.2.2.2.2.2.2.1).bind fun t30 => if (!t30) = true then
 ret false
 else
 if (decide (t17_8 ≠ 0)) = true then
 ret (decide (t17_8 = 9))
 else
 (f43 k t4.1 t4_0 t4_1 t4_2 t4_3 t4_4 t4_5 t4_6 t4_7 t4_8).bind fun t31 => (f41 k t3.1 t3.2.1 t3_0 t3_1 t3_2 t3_3 t3_4 t3_5 t3_6 t3_7 t3_8 t3_9 t17.1 t17_0 t17_1 t17_2 t17_3 t17_4 t17_5 t17_6 t17_7 t17_9 (List.getD ([10, 5, 11] : List Int) (Int.toNat t5) 0) 1280).bind (Sum.elim (fun t32 => if (decide (ByteArray.toList t17_1 ≠ ByteArray.toList t4_0)) = false then
 if (decide ((((List.length t17_9) : Nat) : Int) < 8)) = false then
 (f44 k t17.1 t17_0 t17_1 t17_2 t17_3 t17_4 t17_5 t17_6 t17_7 t17_9).bind fun t33 => if (!t33) = false then
 if (decide (t32.2.2.2.2.2.2.2.2.2 ≠ 9)) = false then
 if 8 ≤ ((List.length t17_9 : Nat) : Int) then
 if ((List.length t17_9 : Nat) : Int) ≤ ((List.length t17_9 : Nat) : Int) then
 if 0 ≤ (if 48 < (((List.length t31.1) : Nat) : Int) then 48 else (((List.length t31.1) : Nat) : Int)) then
 if (if 48 < (((List.length t31.1) : Nat) : Int) then 48 else (((List.length t31.1) : Nat) : Int)) ≤ ((List.length t31.1 : Nat) : Int) then
 if (decide (ByteArray.toList (strOf (List.take ((Int.toNat ((List.length t17_9 : Nat) : Int)) - 8) (List.drop 8 t17_9))) ≠ ByteArray.toList (strOf (List.take ((Int.toNat (if 48 < (((List.length t31.1) : Nat) : Int) then 48 else (((List.length t31.1) : Nat) : Int))) - 0) (List.drop 0 t31.1))))) = true then
 ret false
 else
 if (decide (t4.1 = 4)) = true then
 (f45 k t17_9).bind fun t34 => ret (decide (t34 = 0))
 else
 (f46 k t17_0 t17_1 58 t17_9).bind fun t35 => if (decide (t35.2 = 0)) = true then
 ret (decide (t35.1 = 0))
 else
 ret false
 else none
 else none
 else none
 else none
 else
 ret false
 else
 ret false
 else
 ret false
 else
 ret false) (fun t36 => if (decide (ByteArray.toList t17_1 ≠ ByteArray.toList t4_0)) = false then
 if (decide ((((List.length t17_9) : Nat) : Int) < 8)) = false then
 (f44 k t17.1 t17_0 t17_1 t17_2 t17_3 t17_4 t17_5 t17_6 t17_7 t17_9).bind fun t37 => if (!t37) = false then
 if (decide (t36.2.2.2.2.2.2.2.2.2.2 ≠ 9)) = false then
 if 8 ≤ ((List.length t17_9 : Nat) : Int) then
 if ((List.length t17_9 : Nat) : Int) ≤ ((List.length t17_9 : Nat) : Int) then
 if 0 ≤ (if 48 < (((List.length t31.1) : Nat) : Int) then 48 else (((List.length t31.1) : Nat) : Int)) then
 if (if 48 < (((List.length t31.1) : Nat) : Int) then 48 else (((List.length t31.1) : Nat) : Int)) ≤ ((List.length t31.1 : Nat) : Int) then
 if (decide (ByteArray.toList (strOf (List.take ((Int.toNat ((List.length t17_9 : Nat) : Int)) - 8) (List.drop 8 t17_9))) ≠ ByteArray.toList (strOf (List.take ((Int.toNat (if 48 < (((List.length t31.1) : Nat) : Int) then 48 else (((List.length t31.1) : Nat) : Int))) - 0) (List.drop 0 t31.1))))) = true then
 ret false
 else
 if (decide (t4.1 = 4)) = true then
 (f45 k t17_9).bind fun t38 => ret (decide (t38 = 0))
 else
 (f46 k t17_0 t17_1 58 t17_9).bind fun t39 => if (decide (t39.2 = 0)) = true then
 ret (decide (t39.1 = 0))
 else
 ret false
 else none
 else none
 else none
 else none
 else
 ret false
 else
 ret false
 else
 ret false
 else
 ret false))
 else
 ret false)))))
 else none
 else none))
 else
 ret true
def f7 (k : Nat) (xs1 xs2 : List Int) := f7.step k some xs1 xs2
def f7.w {R : Type} : Bool → (Res env → Option R) → Option R := fun t40 K => K ⟨.v (.c (.s (.bool t40))), [[], []]⟩
theorem f7.wn (x : Bool) : ∃ res, ∀ {R : Type} (K : Res env → Option R), f7.w x K = K res := by
 exact ⟨_, fun _ => rfl⟩
def f7.hd (k : Nat) (ps_ : List (P2 env)) : Cl env :=
 pM Cl.no 5 ps_ fun xs1 ps_ => pM Cl.no 5 ps_ fun xs2 ps_ => gE Cl.no ps_ <| { α := Bool, o := f7 k xs1 xs2, w := f7.w, nat := fun x _ => f7.wn x }
def f7.e (k : Nat) : Entry env := ⟨fun ps => f7.hd k (coer [[.rd 5], [.rd 5]] ps), [], []⟩
def f7.X (k : Nat) : Ctx env := { X0 with C := lookE [(15, f15.e k), (18, f18.e k), (39, f39.e k), (40, f40.e k), (41, f41.e k), (42, f42.e k), (43, f43.e k), (44, f44.e k), (45, f45.e k), (46, f46.e k)] }
theorem f7.nat {R : Type} (k : Nat) (g : _ → Option R) (xs1 xs2) : f7.step k g xs1 xs2 = (f7 k xs1 xs2).bind g := by
 simp only [f7, f7.step, bind_ite, bind_sum, oA, oS, oN]
theorem f7.ev (k : Nat) (xs1 xs2 : List Int) : evF (f7.X k) (bodyOf Try.f7) Try.f7.ntmps Try.f7.results.toList [.v (.c (.sl 5 xs1)), .v (.c (.sl 5 xs2))] = f7.step k (fun x => f7.w x some) xs1 xs2 := by kernel_rfl
theorem f7.hok (k : Nat) : HOK (f7.X k) (bodyOf Try.f7) where
 l := allP_mem (by exact trivial)
 j := allP_mem (by exact trivial)
 q := allP_mem (by exact trivial)
theorem f7.sound0 (k : Nat) : SoundC env Try.prog 7 (f7.hd k) := by
 intro ps_
 show GoodC _ _ _ ps_ (f7.hd k ps_)
 unfold f7.hd
 have hF_ := fun_sound envOK (cs_sound _ (by exact ⟨⟨f15.sound k, f15.fnok⟩, ⟨f18.sound k, f18.fnok⟩, ⟨f39.sound k, f39.fnok⟩, ⟨f40.sound k, f40.fnok⟩, ⟨f41.sound k, f41.fnok⟩, ⟨f42.sound k, f42.fnok⟩, ⟨f43.sound k, f43.fnok⟩, ⟨f44.sound k, f44.fnok⟩, ⟨f45.sound k, f45.fnok⟩, ⟨f46.sound k, f46.fnok⟩, trivial⟩)) (f7.hok k) Try.func7 rfl
 have hev_ := f7.ev k
 have hnat_ := fun g_ => f7.nat k (R := Res env) g_
 exact rdC
theorem f7.sound (k : Nat) : SoundC env Try.prog 7 (f7.e k).F := soundC_coer (f7.sound0 k) [[.rd 5], [.rd 5]]
theorem f7.says (k : Nat) (xs1 xs2 : List Int) (t41 : Bool) (h_ : f7 k xs1 xs2 = some t41) : SoundAt env Try.prog 7 [.v (.c (.sl 5 xs1)), .v (.c (.sl 5 xs2))] ⟨.v (.c (.s (.bool t41))), [[], []]⟩ :=
 fun_sound envOK (cs_sound _ (by exact ⟨⟨f15.sound k, f15.fnok⟩, ⟨f18.sound k, f18.fnok⟩, ⟨f39.sound k, f39.fnok⟩, ⟨f40.sound k, f40.fnok⟩, ⟨f41.sound k, f41.fnok⟩, ⟨f42.sound k, f42.fnok⟩, ⟨f43.sound k, f43.fnok⟩, ⟨f44.sound k, f44.fnok⟩, ⟨f45.sound k, f45.fnok⟩, ⟨f46.sound k, f46.fnok⟩, trivial⟩)) (f7.hok k) Try.func7 rfl _ _ (((f7.ev k xs1 xs2).trans (f7.nat k _ xs1 xs2)).trans (by rw [h_]; rfl))
theorem f7.fnok : FnOK Try.prog 7 := fn_ok Try.func7 (by kernel_rfl) rfl
end Go.Proofs.Ytepfpdaehcmblaa.B
