/- Written by a program of this session. -/
import Derived.Test.YtepfpdaehcmblaaBEnv
import Derived.Test.YtepfpdaehcmblaaBHd
namespace Go.Proofs.Ytepfpdaehcmblaa.B
open Go Go.B
open Option renaming bind_assoc → oA, bind_some → oS, bind_none → oN
set_option linter.unusedVariables false
set_option linter.unusedSimpArgs false
def X0 : Ctx env := { C := lookE [], L := lookE [], J := lookE [], keep := lookD [], keepX := lookD [], span := lookN [], eff := fun n => memN n [], prep := lookP [], np := 0 }
def f54.step {R : Type} (k : Nat) (ret : ((List Int) × Int × Int) → Option R) (xs1 : List Int) : Option R :=
 ret (xs1, 0, (Int.tmod ((List.length xs1) : Int) 1000))
def f54 (k : Nat) (xs1 : List Int) := f54.step k some xs1
def f54.w {R : Type} : ((List Int) × Int × Int) → (Res env → Option R) → Option R := fun t2 K => K ⟨.v (.c (.ptr [.sl 5 t2.1, .s (.int .i64 t2.2.1), .s (.int .i64 t2.2.2)])), [[]]⟩
theorem f54.wn (x : ((List Int) × Int × Int)) : ∃ res, ∀ {R : Type} (K : Res env → Option R), f54.w x K = K res := by
 exact ⟨_, fun _ => rfl⟩
def f54.hd (k : Nat) (ps_ : List (P2 env)) : Cl env :=
 pM Cl.no 5 ps_ fun xs1 ps_ => gE Cl.no ps_ <| { α := (List Int) × Int × Int, o := f54 k xs1, w := f54.w, nat := fun x _ => f54.wn x }
def f54.e (k : Nat) : Entry env := ⟨fun ps => f54.hd k (coer [[.rd 5]] ps), [], []⟩
def f54.X (k : Nat) : Ctx env := X0
theorem f54.nat {R : Type} (k : Nat) (g : _ → Option R) (xs1) : f54.step k g xs1 = (f54 k xs1).bind g := by
 simp only [f54, f54.step, bind_ite, bind_sum, oA, oS, oN]
theorem f54.ev (k : Nat) (xs1 : List Int) : evF (f54.X k) (bodyOf Try.f54) Try.f54.ntmps Try.f54.results.toList [.v (.c (.sl 5 xs1))] = f54.step k (fun x => f54.w x some) xs1 := by kernel_rfl
theorem f54.hok (k : Nat) : HOK (f54.X k) (bodyOf Try.f54) where
 l := allP_mem (by exact trivial)
 j := allP_mem (by exact trivial)
 q := allP_mem (by exact trivial)
theorem f54.sound0 (k : Nat) : SoundC env Try.prog 54 (f54.hd k) := by
 intro ps_
 show GoodC _ _ _ ps_ (f54.hd k ps_)
 unfold f54.hd
 have hF_ := fun_sound envOK (cs_sound _ (by exact trivial)) (f54.hok k) Try.func54 rfl
 have hev_ := f54.ev k
 have hnat_ := fun g_ => f54.nat k (R := Res env) g_
 exact rdC
theorem f54.sound (k : Nat) : SoundC env Try.prog 54 (f54.e k).F := soundC_coer (f54.sound0 k) [[.rd 5]]
theorem f54.fnok : FnOK Try.prog 54 := fn_ok Try.func54 (by kernel_rfl) rfl
def f185.step {R : Type} (k : Nat) (ret : (Int × (List Int) × Int × Int) → Option R) (xs1 : List Int) (a2 a3 : Int) : Option R :=
 if (decide ((IntKind.i64.wrap (a2 + 1)) ≤ ((List.length xs1) : Int))) = true then
 if 0 ≤ (IntKind.i64.wrap ((IntKind.i64.wrap (a2 + 1)) - 1)) then
 if (IntKind.i64.wrap ((IntKind.i64.wrap (a2 + 1)) - 1)) < ((List.length xs1 : Nat) : Int) then
 if 0 ≤ (IntKind.i64.wrap ((IntKind.i64.wrap (a2 + 1)) - 1)) then
 if (IntKind.i64.wrap ((IntKind.i64.wrap (a2 + 1)) - 1)) < ((List.length xs1 : Nat) : Int) then
 ret ((IntKind.i64.wrap (List.getD xs1 (Int.toNat (IntKind.i64.wrap ((IntKind.i64.wrap (a2 + 1)) - 1))) 0)), xs1, (IntKind.i64.wrap (a2 + 1)), (Int.tmod (IntKind.i64.wrap ((IntKind.i64.wrap ((IntKind.i64.wrap (a3 * 31)) + (IntKind.i64.wrap (List.getD xs1 (Int.toNat (IntKind.i64.wrap ((IntKind.i64.wrap (a2 + 1)) - 1))) 0)))) + 7)) 2147483648))
 else none
 else none
 else none
 else none
 else
 if (decide ((IntKind.i64.wrap (a2 + 1)) > 3000)) = true then
 ret (0, xs1, (IntKind.i64.wrap (a2 + 1)), a3)
 else
 ret ((Int.tmod (IntKind.i64.wrap (Int.tdiv (Int.tmod (IntKind.i64.wrap ((IntKind.i64.wrap (a3 * 1103515245)) + 12345)) 2147483648) 65536)) 256), xs1, (IntKind.i64.wrap (a2 + 1)), (Int.tmod (IntKind.i64.wrap ((IntKind.i64.wrap (a3 * 1103515245)) + 12345)) 2147483648))
def f185 (k : Nat) (xs1 : List Int) (a2 a3 : Int) := f185.step k some xs1 a2 a3
def f185.w {R : Type} : (Int × (List Int) × Int × Int) → (Res env → Option R) → Option R := fun t4 K => K ⟨.v (.c (.s (.int .i64 t4.1))), [[.sl 5 t4.2.1, .s (.int .i64 t4.2.2.1), .s (.int .i64 t4.2.2.2)]]⟩
theorem f185.wn (x : (Int × (List Int) × Int × Int)) : ∃ res, ∀ {R : Type} (K : Res env → Option R), f185.w x K = K res := by
 exact ⟨_, fun _ => rfl⟩
def f185.hd (k : Nat) (ps_ : List (P2 env)) : Cl env :=
 gC Cl.no ps_ fun p_ ps_ => qP Cl.no p_ fun cs_ => dM Cl.no 5 cs_ fun xs1 cs_ => dI Cl.no cs_ fun a2 cs_ => dI Cl.no cs_ fun a3 cs_ => gE Cl.no cs_ <| gE Cl.no ps_ <| { α := Int × (List Int) × Int × Int, o := f185 k xs1 a2 a3, w := f185.w, nat := fun x _ => f185.wn x }
def f185.e (k : Nat) : Entry env := ⟨fun ps => f185.hd k (coer [[.rd 5, .no, .no]] ps), [], []⟩
def f185.X (k : Nat) : Ctx env := { X0 with eff := fun n => memN n [3] }
theorem f185.nat {R : Type} (k : Nat) (g : _ → Option R) (xs1 a2 a3) : f185.step k g xs1 a2 a3 = (f185 k xs1 a2 a3).bind g := by
 simp only [f185, f185.step, bind_ite, bind_sum, oA, oS, oN]
theorem f185.ev (k : Nat) (xs1 : List Int) (a2 a3 : Int) : evF (f185.X k) (bodyOf Try.f185) Try.f185.ntmps Try.f185.results.toList [.v (.ptr [.sl 5 xs1, .s (.int .i64 a2), .s (.int .i64 a3)])] = f185.step k (fun x => f185.w x some) xs1 a2 a3 := by kernel_rfl
theorem f185.hok (k : Nat) : HOK (f185.X k) (bodyOf Try.f185) where
 l := allP_mem (by exact trivial)
 j := allP_mem (by exact trivial)
 q := allP_mem (by exact trivial)
theorem f185.sound0 (k : Nat) : SoundC env Try.prog 185 (f185.hd k) := by
 intro ps_
 show GoodC _ _ _ ps_ (f185.hd k ps_)
 unfold f185.hd
 have hF_ := fun_sound envOK (cs_sound _ (by exact trivial)) (f185.hok k) Try.func185 rfl
 have hev_ := f185.ev k
 have hnat_ := fun g_ => f185.nat k (R := Res env) g_
 exact rdC
theorem f185.sound (k : Nat) : SoundC env Try.prog 185 (f185.e k).F := soundC_coer (f185.sound0 k) [[.rd 5, .no, .no]]
theorem f185.fnok : FnOK Try.prog 185 := fn_ok Try.func185 (by kernel_rfl) rfl
def f139.step {R : Type} (k : Nat) (ret : (Int × (List Int) × Int × Int) → Option R) (xs1 : List Int) (a2 a3 a4 : Int) : Option R :=
 if (decide (a4 ≤ 1)) = true then
 ret (0, xs1, a2, a3)
 else
 if (decide (a4 ≤ 256)) = true then
 (f185 k xs1 a2 a3).bind fun t5 => if a4 ≠ 0 then
 ret ((Int.tmod t5.1 a4), t5.2.1, t5.2.2.1, t5.2.2.2)
 else none
 else
 (f185 k xs1 a2 a3).bind fun t6 => (f185 k t6.2.1 t6.2.2.1 t6.2.2.2).bind fun t7 => (f185 k t7.2.1 t7.2.2.1 t7.2.2.2).bind fun t8 => if a4 ≠ 0 then
 ret ((Int.tmod (IntKind.i64.wrap ((IntKind.i64.wrap ((IntKind.i64.wrap (t6.1 * 65536)) + (IntKind.i64.wrap (t7.1 * 256)))) + t8.1)) a4), t8.2.1, t8.2.2.1, t8.2.2.2)
 else none
def f139 (k : Nat) (xs1 : List Int) (a2 a3 a4 : Int) := f139.step k some xs1 a2 a3 a4
def f139.w {R : Type} : (Int × (List Int) × Int × Int) → (Res env → Option R) → Option R := fun t9 K => K ⟨.v (.c (.s (.int .i64 t9.1))), [[.sl 5 t9.2.1, .s (.int .i64 t9.2.2.1), .s (.int .i64 t9.2.2.2)], []]⟩
theorem f139.wn (x : (Int × (List Int) × Int × Int)) : ∃ res, ∀ {R : Type} (K : Res env → Option R), f139.w x K = K res := by
 exact ⟨_, fun _ => rfl⟩
def f139.hd (k : Nat) (ps_ : List (P2 env)) : Cl env :=
 gC Cl.no ps_ fun p_ ps_ => qP Cl.no p_ fun cs_ => dM Cl.no 5 cs_ fun xs1 cs_ => dI Cl.no cs_ fun a2 cs_ => dI Cl.no cs_ fun a3 cs_ => gE Cl.no cs_ <| pI Cl.no ps_ fun a4 ps_ => gE Cl.no ps_ <| { α := Int × (List Int) × Int × Int, o := f139 k xs1 a2 a3 a4, w := f139.w, nat := fun x _ => f139.wn x }
def f139.e (k : Nat) : Entry env := ⟨fun ps => f139.hd k (coer [[.rd 5, .no, .no], [.no]] ps), [], []⟩
def f139.X (k : Nat) : Ctx env := { X0 with C := lookE [(185, f185.e k)] }
theorem f139.nat {R : Type} (k : Nat) (g : _ → Option R) (xs1 a2 a3 a4) : f139.step k g xs1 a2 a3 a4 = (f139 k xs1 a2 a3 a4).bind g := by
 simp only [f139, f139.step, bind_ite, bind_sum, oA, oS, oN]
theorem f139.ev (k : Nat) (xs1 : List Int) (a2 a3 a4 : Int) : evF (f139.X k) (bodyOf Try.f139) Try.f139.ntmps Try.f139.results.toList [.v (.ptr [.sl 5 xs1, .s (.int .i64 a2), .s (.int .i64 a3)]), .v (.c (.s (.int .i64 a4)))] = f139.step k (fun x => f139.w x some) xs1 a2 a3 a4 := by kernel_rfl
theorem f139.hok (k : Nat) : HOK (f139.X k) (bodyOf Try.f139) where
 l := allP_mem (by exact trivial)
 j := allP_mem (by exact trivial)
 q := allP_mem (by exact trivial)
theorem f139.sound0 (k : Nat) : SoundC env Try.prog 139 (f139.hd k) := by
 intro ps_
 show GoodC _ _ _ ps_ (f139.hd k ps_)
 unfold f139.hd
 have hF_ := fun_sound envOK (cs_sound _ (by exact ⟨⟨f185.sound k, f185.fnok⟩, trivial⟩)) (f139.hok k) Try.func139 rfl
 have hev_ := f139.ev k
 have hnat_ := fun g_ => f139.nat k (R := Res env) g_
 exact rdC
theorem f139.sound (k : Nat) : SoundC env Try.prog 139 (f139.e k).F := soundC_coer (f139.sound0 k) [[.rd 5, .no, .no], [.no]]
theorem f139.fnok : FnOK Try.prog 139 := fn_ok Try.func139 (by kernel_rfl) rfl
def f167.step {R : Type} (k : Nat) (ret : (ByteArray × (List Int) × Int × Int) → Option R) (xs1 : List Int) (a2 a3 : Int) : Option R :=
 (f139 k xs1 a2 a3 3).bind fun t4 => (f139 k t4.2.1 t4.2.2.1 t4.2.2.2 2).bind fun t5 => (f139 k t5.2.1 t5.2.2.1 t5.2.2.2 4).bind fun t6 => ret ((strOf ([10, (IntKind.u8.wrap t4.1), (IntKind.u8.wrap (IntKind.i64.wrap (t5.1 * 128))), (IntKind.u8.wrap t6.1)] : List Int)), t6.2.1, t6.2.2.1, t6.2.2.2)
def f167 (k : Nat) (xs1 : List Int) (a2 a3 : Int) := f167.step k some xs1 a2 a3
def f167.w {R : Type} : (ByteArray × (List Int) × Int × Int) → (Res env → Option R) → Option R := fun t7 K => K ⟨.v (.c (.s (.string t7.1))), [[.sl 5 t7.2.1, .s (.int .i64 t7.2.2.1), .s (.int .i64 t7.2.2.2)]]⟩
theorem f167.wn (x : (ByteArray × (List Int) × Int × Int)) : ∃ res, ∀ {R : Type} (K : Res env → Option R), f167.w x K = K res := by
 exact ⟨_, fun _ => rfl⟩
def f167.hd (k : Nat) (ps_ : List (P2 env)) : Cl env :=
 gC Cl.no ps_ fun p_ ps_ => qP Cl.no p_ fun cs_ => dM Cl.no 5 cs_ fun xs1 cs_ => dI Cl.no cs_ fun a2 cs_ => dI Cl.no cs_ fun a3 cs_ => gE Cl.no cs_ <| gE Cl.no ps_ <| { α := ByteArray × (List Int) × Int × Int, o := f167 k xs1 a2 a3, w := f167.w, nat := fun x _ => f167.wn x }
def f167.e (k : Nat) : Entry env := ⟨fun ps => f167.hd k (coer [[.rd 5, .no, .no]] ps), [], []⟩
def f167.X (k : Nat) : Ctx env := { X0 with C := lookE [(139, f139.e k)] }
theorem f167.nat {R : Type} (k : Nat) (g : _ → Option R) (xs1 a2 a3) : f167.step k g xs1 a2 a3 = (f167 k xs1 a2 a3).bind g := by
 simp only [f167, f167.step, bind_ite, bind_sum, oA, oS, oN]
theorem f167.ev (k : Nat) (xs1 : List Int) (a2 a3 : Int) : evF (f167.X k) (bodyOf Try.f167) Try.f167.ntmps Try.f167.results.toList [.v (.ptr [.sl 5 xs1, .s (.int .i64 a2), .s (.int .i64 a3)])] = f167.step k (fun x => f167.w x some) xs1 a2 a3 := by kernel_rfl
theorem f167.hok (k : Nat) : HOK (f167.X k) (bodyOf Try.f167) where
 l := allP_mem (by exact trivial)
 j := allP_mem (by exact trivial)
 q := allP_mem (by exact trivial)
theorem f167.sound0 (k : Nat) : SoundC env Try.prog 167 (f167.hd k) := by
 intro ps_
 show GoodC _ _ _ ps_ (f167.hd k ps_)
 unfold f167.hd
 have hF_ := fun_sound envOK (cs_sound _ (by exact ⟨⟨f139.sound k, f139.fnok⟩, trivial⟩)) (f167.hok k) Try.func167 rfl
 have hev_ := f167.ev k
 have hnat_ := fun g_ => f167.nat k (R := Res env) g_
 exact rdC
theorem f167.sound (k : Nat) : SoundC env Try.prog 167 (f167.e k).F := soundC_coer (f167.sound0 k) [[.rd 5, .no, .no]]
theorem f167.fnok : FnOK Try.prog 167 := fn_ok Try.func167 (by kernel_rfl) rfl
def f123.l6.step {R : Type} (k : Nat) (rec_ : ByteArray → Int → Int → (List Int) → Option R) (ret : (ByteArray × Int × (List Int)) → Option R) (s5 : ByteArray) (a6 a7 : Int) (xs8 : List Int) : Option R :=
 if (decide (a7 ≥ 0)) = true then
 if 0 ≤ a6 then
 if a6 < ((ByteArray.size s5 : Nat) : Int) then
 if 0 ≤ (IntKind.u64.wrap a7) then
 if (List.length xs8 + List.length ([(IntKind.u8.wrap (48 + (bitsV .and .u8 (Int.fdiv (bt s5 a6) (2 ^ (min (Int.toNat (IntKind.u64.wrap a7)) IntKind.u8.bits))) 1)))] : List Int)) * 1 ≤ maxN then
 rec_ s5 a6 (IntKind.i64.wrap (a7 - 1)) (xs8 ++ ([(IntKind.u8.wrap (48 + (bitsV .and .u8 (Int.fdiv (bt s5 a6) (2 ^ (min (Int.toNat (IntKind.u64.wrap a7)) IntKind.u8.bits))) 1)))] : List Int))
 else none
 else none
 else none
 else none
 else
 ret (s5, a6, xs8)
def f123.l6 (k : Nat) : Nat → ByteArray → Int → Int → (List Int) → Option (ByteArray × Int × (List Int))
 | 0, _, _, _, _ => none
 | j + 1, s5, a6, a7, xs8 => f123.l6.step k (fun s5 a6 a7 xs8 => f123.l6 k j s5 a6 a7 xs8) some s5 a6 a7 xs8
def f123.l6.w {R : Type} : (ByteArray × Int × (List Int)) → (Exit → St env → Option R) → Option R := fun t11 K => K (.exit 2) ⟨fullT [0, 3, 4] 0 30 [.v (.c (.s (.string t11.1))), .v (.c (.row 17)), .v (.c (.s (.int .i64 t11.2.1)))], [(17, .row true 5 t11.2.2)], 417⟩
def f123.l6.st (s5 : ByteArray) (a6 a7 : Int) (xs8 : List Int) : St env := ⟨fullT [0, 3, 4, 5] 0 30 [.v (.c (.s (.string s5))), .v (.c (.row 17)), .v (.c (.s (.int .i64 a6))), .v (.c (.s (.int .i64 a7)))], [(17, .row true 5 xs8)], 145⟩
def f123.l3.step {R : Type} (k : Nat) (rec_ : ByteArray → Int → (List Int) → Option R) (ret : ((List Int)) → Option R) (s2 : ByteArray) (a3 : Int) (xs4 : List Int) : Option R :=
 if (decide (a3 < (((ByteArray.size s2) : Nat) : Int))) = true then
 (f123.l6 k k s2 a3 7 xs4).bind fun t9 => rec_ t9.1 (IntKind.i64.wrap (t9.2.1 + 1)) t9.2.2
 else
 ret xs4
def f123.l3 (k : Nat) : Nat → ByteArray → Int → (List Int) → Option ((List Int))
 | 0, _, _, _ => none
 | j + 1, s2, a3, xs4 => f123.l3.step k (fun s2 a3 xs4 => f123.l3 k j s2 a3 xs4) some s2 a3 xs4
def f123.l3.w {R : Type} : ((List Int)) → (Exit → St env → Option R) → Option R := fun t12 K => K (.exit 0) ⟨fullT [3] 0 30 [.v (.c (.row 17))], [(17, .row true 5 t12)], 465⟩
def f123.l3.st (s2 : ByteArray) (a3 : Int) (xs4 : List Int) : St env := ⟨fullT [0, 3, 4] 0 30 [.v (.c (.s (.string s2))), .v (.c (.row 17)), .v (.c (.s (.int .i64 a3)))], [(17, .row true 5 xs4)], 65⟩
def f123.l6.hd (k : Nat) (ts_ : List (AV env)) (mm_ : Mem env) (n_ : Nat) : LCl env :=
 gTs Ln [0, 3, 4, 5] 30 ts_ fun l_ => tS Ln l_ fun s5 l_ => tR Ln 17 l_ fun l_ => tI Ln l_ fun a6 l_ => tI Ln l_ fun a7 l_ => gE Ln l_ <| mRow Ln 17 true 5 mm_ fun xs8 m_ => gE Ln m_ <| gN Ln 145 n_ { α := ByteArray × Int × (List Int), o := f123.l6 k k s5 a6 a7 xs8, w := f123.l6.w }
def f123.l3.hd (k : Nat) (ts_ : List (AV env)) (mm_ : Mem env) (n_ : Nat) : LCl env :=
 gTs Ln [0, 3, 4] 30 ts_ fun l_ => tS Ln l_ fun s2 l_ => tR Ln 17 l_ fun l_ => tI Ln l_ fun a3 l_ => gE Ln l_ <| mRow Ln 17 true 5 mm_ fun xs4 m_ => gE Ln m_ <| gN Ln 65 n_ { α := (List Int), o := f123.l3 k k s2 a3 xs4, w := f123.l3.w }
def f123.step {R : Type} (k : Nat) (ret : ByteArray → Option R) (s1 : ByteArray) : Option R :=
 (f123.l3 k k s1 0 ([] : List Int)).bind fun t10 => ret (strOf t10)
def f123 (k : Nat) (s1 : ByteArray) := f123.step k some s1
def f123.w {R : Type} : ByteArray → (Res env → Option R) → Option R := fun t13 K => K ⟨.v (.c (.s (.string t13))), [[]]⟩
theorem f123.wn (x : ByteArray) : ∃ res, ∀ {R : Type} (K : Res env → Option R), f123.w x K = K res := by
 exact ⟨_, fun _ => rfl⟩
def f123.hd (k : Nat) (ps_ : List (P2 env)) : Cl env :=
 pS Cl.no ps_ fun s1 ps_ => gE Cl.no ps_ <| { α := ByteArray, o := f123 k s1, w := f123.w, nat := fun x _ => f123.wn x }
def f123.e (k : Nat) : Entry env := ⟨f123.hd k, [], []⟩
def f123.X (k : Nat) : Ctx env := { X0 with L := lookE [(6, fun S => f123.l6.hd k S.ts S.m S.n), (3, fun S => f123.l3.hd k S.ts S.m S.n)], keep := lookD [(6, [0, 3, 4, 5]), (3, [0, 3, 4])], keepX := lookD [(6, [0, 3, 4]), (3, [3])], span := lookN [(6, 272), (3, 400)] }
theorem f123.l6.nat {R : Type} (k : Nat) (rec_) (g : _ → Option R) (s5 a6 a7 xs8) : (f123.l6.step k rec_ some s5 a6 a7 xs8).bind g = f123.l6.step k (fun s5 a6 a7 xs8 => (rec_ s5 a6 a7 xs8).bind g) g s5 a6 a7 xs8 := by
 simp only [f123.l6.step, bind_ite, bind_sum, oA, oS, oN]
theorem f123.l6.good (k : Nat) (s5 a6 a7 xs8) : GoodL (f123.X k) (nthC 1 (loopsOf (bodyOf Try.f123))) (f123.l6.st s5 a6 a7 xs8) { α := _, o := f123.l6 k k s5 a6 a7 xs8, w := f123.l6.w } :=
 loop_good (ι := ByteArray × Int × Int × (List Int)) (α := (ByteArray × Int × (List Int))) (fun i => f123.l6.st i.1 i.2.1 i.2.2.1 i.2.2.2) (fun j i => f123.l6 k j i.1 i.2.1 i.2.2.1 i.2.2.2) f123.l6.w (fun rec_ ret i => f123.l6.step k (fun s5 a6 a7 xs8 => rec_ (s5, a6, a7, xs8)) ret i.1 i.2.1 i.2.2.1 i.2.2.2)
  (fun _ => rfl) (fun _ _ => rfl) (fun rec_ g i => f123.l6.nat k _ g i.1 i.2.1 i.2.2.1 i.2.2.2) (fun {R} i0 i rec_ K => by kernel_rfl) k (s5, a6, a7, xs8)
theorem f123.l6.all (k : Nat) (S : St env) : GoodL (f123.X k) (nthC 1 (loopsOf (bodyOf Try.f123))) S (f123.l6.hd k S.ts S.m S.n) := by
 obtain ⟨ts_, m_, n_⟩ := S
 show GoodL _ _ _ (f123.l6.hd k ts_ m_ n_)
 unfold f123.l6.hd
 have hg_ := f123.l6.good k
 exact rdL
theorem f123.l3.nat {R : Type} (k : Nat) (rec_) (g : _ → Option R) (s2 a3 xs4) : (f123.l3.step k rec_ some s2 a3 xs4).bind g = f123.l3.step k (fun s2 a3 xs4 => (rec_ s2 a3 xs4).bind g) g s2 a3 xs4 := by
 simp only [f123.l3.step, bind_ite, bind_sum, oA, oS, oN]
theorem f123.l3.good (k : Nat) (s2 a3 xs4) : GoodL (f123.X k) (nthC 0 (loopsOf (bodyOf Try.f123))) (f123.l3.st s2 a3 xs4) { α := _, o := f123.l3 k k s2 a3 xs4, w := f123.l3.w } :=
 loop_good (ι := ByteArray × Int × (List Int)) (α := ((List Int))) (fun i => f123.l3.st i.1 i.2.1 i.2.2) (fun j i => f123.l3 k j i.1 i.2.1 i.2.2) f123.l3.w (fun rec_ ret i => f123.l3.step k (fun s2 a3 xs4 => rec_ (s2, a3, xs4)) ret i.1 i.2.1 i.2.2)
  (fun _ => rfl) (fun _ _ => rfl) (fun rec_ g i => f123.l3.nat k _ g i.1 i.2.1 i.2.2) (fun {R} i0 i rec_ K => by kernel_rfl) k (s2, a3, xs4)
theorem f123.l3.all (k : Nat) (S : St env) : GoodL (f123.X k) (nthC 0 (loopsOf (bodyOf Try.f123))) S (f123.l3.hd k S.ts S.m S.n) := by
 obtain ⟨ts_, m_, n_⟩ := S
 show GoodL _ _ _ (f123.l3.hd k ts_ m_ n_)
 unfold f123.l3.hd
 have hg_ := f123.l3.good k
 exact rdL
theorem f123.nat {R : Type} (k : Nat) (g : _ → Option R) (s1) : f123.step k g s1 = (f123 k s1).bind g := by
 simp only [f123, f123.step, bind_ite, bind_sum, oA, oS, oN]
theorem f123.ev (k : Nat) (s1 : ByteArray) : evF (f123.X k) (bodyOf Try.f123) Try.f123.ntmps Try.f123.results.toList [.v (.c (.s (.string s1)))] = f123.step k (fun x => f123.w x some) s1 := by kernel_rfl
theorem f123.hok (k : Nat) : HOK (f123.X k) (bodyOf Try.f123) where
 l := allP_mem (by exact ⟨ls_of (h0 := fun S => f123.l3.hd k S.ts S.m S.n) (by kernel_rfl) (f123.l3.all k), ls_of (h0 := fun S => f123.l6.hd k S.ts S.m S.n) (by kernel_rfl) (f123.l6.all k), trivial⟩)
 j := allP_mem (by exact trivial)
 q := allP_mem (by exact trivial)
theorem f123.sound (k : Nat) : SoundC env Try.prog 123 ((f123.e k).F) := by
 intro ps_
 show GoodC _ _ _ ps_ (f123.hd k ps_)
 unfold f123.hd
 have hF_ := fun_sound envOK (cs_sound _ (by exact trivial)) (f123.hok k) Try.func123 rfl
 have hev_ := f123.ev k
 have hnat_ := fun g_ => f123.nat k (R := Res env) g_
 exact rdC
theorem f123.fnok : FnOK Try.prog 123 := fn_ok Try.func123 (by kernel_rfl) rfl
def f159.step {R : Type} (k : Nat) (ret : (ByteArray × Bool × Int × Int) → Option R) (s1 : ByteArray) (a2 a3 : Int) : Option R :=
 ret (s1, true, a2, a3)
def f159 (k : Nat) (s1 : ByteArray) (a2 a3 : Int) := f159.step k some s1 a2 a3
def f159.w {R : Type} : (ByteArray × Bool × Int × Int) → (Res env → Option R) → Option R := fun t4 K => K ⟨.v (.g [.s (.string t4.1), .s (.bool t4.2.1), .s (.int .i64 t4.2.2.1), .s (.int .i64 t4.2.2.2), .s (.slice none 0 0)]), [[]]⟩
theorem f159.wn (x : (ByteArray × Bool × Int × Int)) : ∃ res, ∀ {R : Type} (K : Res env → Option R), f159.w x K = K res := by
 exact ⟨_, fun _ => rfl⟩
def f159.hd (k : Nat) (ps_ : List (P2 env)) : Cl env :=
 gC Cl.no ps_ fun p_ ps_ => qG Cl.no p_ fun cs_ => dS Cl.no cs_ fun s1 cs_ => dI Cl.no cs_ fun a2 cs_ => dI Cl.no cs_ fun a3 cs_ => gE Cl.no cs_ <| gE Cl.no ps_ <| { α := ByteArray × Bool × Int × Int, o := f159 k s1 a2 a3, w := f159.w, nat := fun x _ => f159.wn x }
def f159.e (k : Nat) : Entry env := ⟨f159.hd k, [], []⟩
def f159.X (k : Nat) : Ctx env := X0
theorem f159.nat {R : Type} (k : Nat) (g : _ → Option R) (s1 a2 a3) : f159.step k g s1 a2 a3 = (f159 k s1 a2 a3).bind g := by
 simp only [f159, f159.step, bind_ite, bind_sum, oA, oS, oN]
theorem f159.ev (k : Nat) (s1 : ByteArray) (a2 a3 : Int) : evF (f159.X k) (bodyOf Try.f159) Try.f159.ntmps Try.f159.results.toList [.g [.s (.string s1), .s (.int .i64 a2), .s (.int .i64 a3)]] = f159.step k (fun x => f159.w x some) s1 a2 a3 := by kernel_rfl
theorem f159.hok (k : Nat) : HOK (f159.X k) (bodyOf Try.f159) where
 l := allP_mem (by exact trivial)
 j := allP_mem (by exact trivial)
 q := allP_mem (by exact trivial)
theorem f159.sound (k : Nat) : SoundC env Try.prog 159 ((f159.e k).F) := by
 intro ps_
 show GoodC _ _ _ ps_ (f159.hd k ps_)
 unfold f159.hd
 have hF_ := fun_sound envOK (cs_sound _ (by exact trivial)) (f159.hok k) Try.func159 rfl
 have hev_ := f159.ev k
 have hnat_ := fun g_ => f159.nat k (R := Res env) g_
 exact rdC
theorem f159.fnok : FnOK Try.prog 159 := fn_ok Try.func159 (by kernel_rfl) rfl
def f192.l2.step {R : Type} (k : Nat) (rec_ : ByteArray → ByteArray → Int → Option R) (ret : (ByteArray × Int) → Option R) (s3 s4 : ByteArray) (a5 : Int) : Option R :=
 if (decide (a5 < (((ByteArray.size s3) : Nat) : Int))) = true then
 if (decide (a5 < (((ByteArray.size s4) : Nat) : Int))) = true then
 if 0 ≤ a5 then
 if a5 < ((ByteArray.size s3 : Nat) : Int) then
 if 0 ≤ a5 then
 if a5 < ((ByteArray.size s4 : Nat) : Int) then
 if (decide ((bt s3 a5) = (bt s4 a5))) = true then
 rec_ s3 s4 (IntKind.i64.wrap (a5 + 1))
 else
 ret (s3, a5)
 else none
 else none
 else none
 else none
 else
 ret (s3, a5)
 else
 ret (s3, a5)
def f192.l2 (k : Nat) : Nat → ByteArray → ByteArray → Int → Option (ByteArray × Int)
 | 0, _, _, _ => none
 | j + 1, s3, s4, a5 => f192.l2.step k (fun s3 s4 a5 => f192.l2 k j s3 s4 a5) some s3 s4 a5
def f192.l2.w {R : Type} : (ByteArray × Int) → (Exit → St env → Option R) → Option R := fun t7 K => K (.exit 0) ⟨fullT [0, 5] 0 30 [.v (.c (.s (.string t7.1))), .v (.c (.s (.int .i64 t7.2)))], [], 386⟩
def f192.l2.st (s3 s4 : ByteArray) (a5 : Int) : St env := ⟨fullT [0, 1, 5] 0 30 [.v (.c (.s (.string s3))), .v (.c (.s (.string s4))), .v (.c (.s (.int .i64 a5)))], [], 34⟩
def f192.l2.hd (k : Nat) (ts_ : List (AV env)) (mm_ : Mem env) (n_ : Nat) : LCl env :=
 gTs Ln [0, 1, 5] 30 ts_ fun l_ => tS Ln l_ fun s3 l_ => tS Ln l_ fun s4 l_ => tI Ln l_ fun a5 l_ => gE Ln l_ <| gE Ln mm_ <| gN Ln 34 n_ { α := ByteArray × Int, o := f192.l2 k k s3 s4 a5, w := f192.l2.w }
def f192.step {R : Type} (k : Nat) (ret : ByteArray → Option R) (s1 s2 : ByteArray) : Option R :=
 (f192.l2 k k s1 s2 0).bind fun t6 => if 0 ≤ t6.2 then
 if t6.2 ≤ ((ByteArray.size t6.1 : Nat) : Int) then
 ret (ByteArray.extract t6.1 0 (Int.toNat t6.2))
 else none
 else none
def f192 (k : Nat) (s1 s2 : ByteArray) := f192.step k some s1 s2
def f192.w {R : Type} : ByteArray → (Res env → Option R) → Option R := fun t8 K => K ⟨.v (.c (.s (.string t8))), [[], []]⟩
theorem f192.wn (x : ByteArray) : ∃ res, ∀ {R : Type} (K : Res env → Option R), f192.w x K = K res := by
 exact ⟨_, fun _ => rfl⟩
def f192.hd (k : Nat) (ps_ : List (P2 env)) : Cl env :=
 pS Cl.no ps_ fun s1 ps_ => pS Cl.no ps_ fun s2 ps_ => gE Cl.no ps_ <| { α := ByteArray, o := f192 k s1 s2, w := f192.w, nat := fun x _ => f192.wn x }
def f192.e (k : Nat) : Entry env := ⟨f192.hd k, [], []⟩
def f192.X (k : Nat) : Ctx env := { X0 with L := lookE [(2, fun S => f192.l2.hd k S.ts S.m S.n)], keep := lookD [(2, [0, 1, 5])], keepX := lookD [(2, [0, 5])], span := lookN [(2, 352)] }
theorem f192.l2.nat {R : Type} (k : Nat) (rec_) (g : _ → Option R) (s3 s4 a5) : (f192.l2.step k rec_ some s3 s4 a5).bind g = f192.l2.step k (fun s3 s4 a5 => (rec_ s3 s4 a5).bind g) g s3 s4 a5 := by
 simp only [f192.l2.step, bind_ite, bind_sum, oA, oS, oN]
theorem f192.l2.good (k : Nat) (s3 s4 a5) : GoodL (f192.X k) (nthC 0 (loopsOf (bodyOf Try.f192))) (f192.l2.st s3 s4 a5) { α := _, o := f192.l2 k k s3 s4 a5, w := f192.l2.w } :=
 loop_good (ι := ByteArray × ByteArray × Int) (α := (ByteArray × Int)) (fun i => f192.l2.st i.1 i.2.1 i.2.2) (fun j i => f192.l2 k j i.1 i.2.1 i.2.2) f192.l2.w (fun rec_ ret i => f192.l2.step k (fun s3 s4 a5 => rec_ (s3, s4, a5)) ret i.1 i.2.1 i.2.2)
  (fun _ => rfl) (fun _ _ => rfl) (fun rec_ g i => f192.l2.nat k _ g i.1 i.2.1 i.2.2) (fun {R} i0 i rec_ K => by kernel_rfl) k (s3, s4, a5)
theorem f192.l2.all (k : Nat) (S : St env) : GoodL (f192.X k) (nthC 0 (loopsOf (bodyOf Try.f192))) S (f192.l2.hd k S.ts S.m S.n) := by
 obtain ⟨ts_, m_, n_⟩ := S
 show GoodL _ _ _ (f192.l2.hd k ts_ m_ n_)
 unfold f192.l2.hd
 have hg_ := f192.l2.good k
 exact rdL
theorem f192.nat {R : Type} (k : Nat) (g : _ → Option R) (s1 s2) : f192.step k g s1 s2 = (f192 k s1 s2).bind g := by
 simp only [f192, f192.step, bind_ite, bind_sum, oA, oS, oN]
theorem f192.ev (k : Nat) (s1 s2 : ByteArray) : evF (f192.X k) (bodyOf Try.f192) Try.f192.ntmps Try.f192.results.toList [.v (.c (.s (.string s1))), .v (.c (.s (.string s2)))] = f192.step k (fun x => f192.w x some) s1 s2 := by kernel_rfl
theorem f192.hok (k : Nat) : HOK (f192.X k) (bodyOf Try.f192) where
 l := allP_mem (by exact ⟨ls_of (h0 := fun S => f192.l2.hd k S.ts S.m S.n) (by kernel_rfl) (f192.l2.all k), trivial⟩)
 j := allP_mem (by exact trivial)
 q := allP_mem (by exact trivial)
theorem f192.sound (k : Nat) : SoundC env Try.prog 192 ((f192.e k).F) := by
 intro ps_
 show GoodC _ _ _ ps_ (f192.hd k ps_)
 unfold f192.hd
 have hF_ := fun_sound envOK (cs_sound _ (by exact trivial)) (f192.hok k) Try.func192 rfl
 have hev_ := f192.ev k
 have hnat_ := fun g_ => f192.nat k (R := Res env) g_
 exact rdC
theorem f192.fnok : FnOK Try.prog 192 := fn_ok Try.func192 (by kernel_rfl) rfl
def f161.step {R : Type} (k : Nat) (ret : ((List S66)) → Option R) (xs1 : List S66) (s2 : ByteArray) (b3 : Bool) (a4 a5 : Int) (xs6 : List S66) (a7 : Int) : Option R :=
 if (decide (((List.length xs1) : Int) = 1)) = true then
 if 0 < ((List.length xs1 : Nat) : Int) then
 if 0 ≤ a7 then
 if a7 < ((ByteArray.size (List.getD xs1 0 (⟨ByteArray.empty, false, 0, 0, []⟩ : S66)).f0 : Nat) : Int) then
 if 0 ≤ a7 then
 if a7 < ((ByteArray.size s2 : Nat) : Int) then
 if (decide ((bt (List.getD xs1 0 (⟨ByteArray.empty, false, 0, 0, []⟩ : S66)).f0 a7) > (bt s2 a7))) = true then
 if 0 < ((List.length xs1 : Nat) : Int) then
 ret ([(⟨s2, b3, a4, a5, xs6⟩ : S66), (⟨(List.getD xs1 0 (⟨ByteArray.empty, false, 0, 0, []⟩ : S66)).f0, (List.getD xs1 0 (⟨ByteArray.empty, false, 0, 0, []⟩ : S66)).f1, (List.getD xs1 0 (⟨ByteArray.empty, false, 0, 0, []⟩ : S66)).f2, (List.getD xs1 0 (⟨ByteArray.empty, false, 0, 0, []⟩ : S66)).f3, (List.getD xs1 0 (⟨ByteArray.empty, false, 0, 0, []⟩ : S66)).f4⟩ : S66)] : List S66)
 else none
 else
 if (List.length ([] : List S66) + List.length xs1) * 64 ≤ maxN then
 if (List.length (([] : List S66) ++ xs1) + List.length ([(⟨s2, b3, a4, a5, xs6⟩ : S66)] : List S66)) * 64 ≤ maxN then
 ret ((([] : List S66) ++ xs1) ++ ([(⟨s2, b3, a4, a5, xs6⟩ : S66)] : List S66))
 else none
 else none
 else none
 else none
 else none
 else none
 else none
 else
 if (List.length ([] : List S66) + List.length xs1) * 64 ≤ maxN then
 if (List.length (([] : List S66) ++ xs1) + List.length ([(⟨s2, b3, a4, a5, xs6⟩ : S66)] : List S66)) * 64 ≤ maxN then
 ret ((([] : List S66) ++ xs1) ++ ([(⟨s2, b3, a4, a5, xs6⟩ : S66)] : List S66))
 else none
 else none
def f161 (k : Nat) (xs1 : List S66) (s2 : ByteArray) (b3 : Bool) (a4 a5 : Int) (xs6 : List S66) (a7 : Int) := f161.step k some xs1 s2 b3 a4 a5 xs6 a7
def f161.w {R : Type} : ((List S66)) → (Res env → Option R) → Option R := fun t8 K => K ⟨.v (.c (.own false 66 t8)), [[], [], []]⟩
theorem f161.wn (x : ((List S66))) : ∃ res, ∀ {R : Type} (K : Res env → Option R), f161.w x K = K res := by
 exact ⟨_, fun _ => rfl⟩
def f161.hd (k : Nat) (ps_ : List (P2 env)) : Cl env :=
 pM Cl.no 66 ps_ fun xs1 ps_ => gC Cl.no ps_ fun p_ ps_ => qG Cl.no p_ fun cs_ => dS Cl.no cs_ fun s2 cs_ => dB Cl.no cs_ fun b3 cs_ => dI Cl.no cs_ fun a4 cs_ => dI Cl.no cs_ fun a5 cs_ => dM Cl.no 66 cs_ fun xs6 cs_ => gE Cl.no cs_ <| pI Cl.no ps_ fun a7 ps_ => gE Cl.no ps_ <| { α := (List S66), o := f161 k xs1 s2 b3 a4 a5 xs6 a7, w := f161.w, nat := fun x _ => f161.wn x }
def f161.e (k : Nat) : Entry env := ⟨fun ps => f161.hd k (coer [[.rd 66], [.no, .no, .no, .no, .rd 66], [.no]] ps), [], []⟩
def f161.X (k : Nat) : Ctx env := { X0 with eff := fun n => memN n [2, 3] }
theorem f161.nat {R : Type} (k : Nat) (g : _ → Option R) (xs1 s2 b3 a4 a5 xs6 a7) : f161.step k g xs1 s2 b3 a4 a5 xs6 a7 = (f161 k xs1 s2 b3 a4 a5 xs6 a7).bind g := by
 simp only [f161, f161.step, bind_ite, bind_sum, oA, oS, oN]
theorem f161.ev (k : Nat) (xs1 : List S66) (s2 : ByteArray) (b3 : Bool) (a4 a5 : Int) (xs6 : List S66) (a7 : Int) : evF (f161.X k) (bodyOf Try.f161) Try.f161.ntmps Try.f161.results.toList [.v (.c (.sl 66 xs1)), .g [.s (.string s2), .s (.bool b3), .s (.int .i64 a4), .s (.int .i64 a5), .sl 66 xs6], .v (.c (.s (.int .i64 a7)))] = f161.step k (fun x => f161.w x some) xs1 s2 b3 a4 a5 xs6 a7 := by kernel_rfl
theorem f161.hok (k : Nat) : HOK (f161.X k) (bodyOf Try.f161) where
 l := allP_mem (by exact trivial)
 j := allP_mem (by exact trivial)
 q := allP_mem (by exact trivial)
theorem f161.sound0 (k : Nat) : SoundC env Try.prog 161 (f161.hd k) := by
 intro ps_
 show GoodC _ _ _ ps_ (f161.hd k ps_)
 unfold f161.hd
 have hF_ := fun_sound envOK (cs_sound _ (by exact trivial)) (f161.hok k) Try.func161 rfl
 have hev_ := f161.ev k
 have hnat_ := fun g_ => f161.nat k (R := Res env) g_
 exact rdC
theorem f161.sound (k : Nat) : SoundC env Try.prog 161 (f161.e k).F := soundC_coer (f161.sound0 k) [[.rd 66], [.no, .no, .no, .no, .rd 66], [.no]]
theorem f161.fnok : FnOK Try.prog 161 := fn_ok Try.func161 (by kernel_rfl) rfl
def f88i.w {R : Type} : ((ByteArray × Bool × Int × Int × (List S66)) ⊕ (ByteArray × Bool × Int × Int × (List S66))) → (Res env → Option R) → Option R := fun x K => Sum.elim (fun t35 => K ⟨.v (.g [.s (.string t35.1), .s (.bool t35.2.1), .s (.int .i64 t35.2.2.1), .s (.int .i64 t35.2.2.2.1), .imm 66 t35.2.2.2.2]), [[], []]⟩) (fun t36 => K ⟨.v (.g [.s (.string t36.1), .s (.bool t36.2.1), .s (.int .i64 t36.2.2.1), .s (.int .i64 t36.2.2.2.1), .own false 66 t36.2.2.2.2]), [[], []]⟩) x
theorem f88i.wn (x : ((ByteArray × Bool × Int × Int × (List S66)) ⊕ (ByteArray × Bool × Int × Int × (List S66)))) : ∃ res, ∀ {R : Type} (K : Res env → Option R), f88i.w x K = K res := by
 rcases x with x | x <;> exact ⟨_, fun _ => rfl⟩
def f88i.hdG (G_ : ByteArray → Bool → Int → Int → (List S66) → ByteArray → Int → Int → Option ((ByteArray × Bool × Int × Int × (List S66)) ⊕ (ByteArray × Bool × Int × Int × (List S66)))) (ps_ : List (P2 env)) : Cl env :=
 gC Cl.no ps_ fun p_ ps_ => qG Cl.no p_ fun cs_ => dS Cl.no cs_ fun s1 cs_ => dB Cl.no cs_ fun b2 cs_ => dI Cl.no cs_ fun a3 cs_ => dI Cl.no cs_ fun a4 cs_ => dM Cl.no 66 cs_ fun xs5 cs_ => gE Cl.no cs_ <| gC Cl.no ps_ fun p_ ps_ => qG Cl.no p_ fun cs_ => dS Cl.no cs_ fun s6 cs_ => dI Cl.no cs_ fun a7 cs_ => dI Cl.no cs_ fun a8 cs_ => gE Cl.no cs_ <| gE Cl.no ps_ <| { α := (ByteArray × Bool × Int × Int × (List S66)) ⊕ (ByteArray × Bool × Int × Int × (List S66)), o := G_ s1 b2 a3 a4 xs5 s6 a7 a8, w := f88i.w, nat := fun x _ => f88i.wn x }
def f88i.eG (G_ : ByteArray → Bool → Int → Int → (List S66) → ByteArray → Int → Int → Option ((ByteArray × Bool × Int × Int × (List S66)) ⊕ (ByteArray × Bool × Int × Int × (List S66)))) : Entry env := ⟨fun ps => f88i.hdG G_ (coer [[.no, .no, .no, .no, .rd 66], [.no, .no, .no]] ps), [], []⟩
theorem f88i.none_ : SoundC env Try.prog 88 (f88i.eG (fun _ _ _ _ _ _ _ _ => none)).F := by
 refine soundC_coer (F := f88i.hdG (fun _ _ _ _ _ _ _ _ => none)) ?_ [[.no, .no, .no, .no, .rd 66], [.no, .no, .no]]
 intro ps_
 show GoodC _ _ _ ps_ (f88i.hdG (fun _ _ _ _ _ _ _ _ => none) ps_)
 unfold f88i.hdG
 exact rdC
theorem f88.fnok : FnOK Try.prog 88 := fn_ok Try.func88 (by kernel_rfl) rfl
def f160i.step {R : Type} (g88 : ByteArray → Bool → Int → Int → (List S66) → ByteArray → Int → Int → Option ((ByteArray × Bool × Int × Int × (List S66)) ⊕ (ByteArray × Bool × Int × Int × (List S66)))) (k : Nat) (ret : ((ByteArray × Bool × Int × Int × (List S66)) ⊕ (ByteArray × Bool × Int × Int × (List S66))) → Option R) (s1 : ByteArray) (b2 : Bool) (a3 a4 : Int) (xs5 : List S66) (s6 : ByteArray) (a7 a8 : Int) : Option R :=
 (f192 k s1 s6).bind fun t9 => if (decide (ByteArray.toList t9 = ByteArray.toList s1)) = true then
 (g88 s1 b2 a3 a4 xs5 s6 a7 a8).bind (Sum.elim (fun t10 => ret (.inl (t10.1, t10.2.1, t10.2.2.1, t10.2.2.2.1, t10.2.2.2.2))) (fun t11 => ret (.inl (t11.1, t11.2.1, t11.2.2.1, t11.2.2.2.1, t11.2.2.2.2))))
 else
 if (decide (ByteArray.toList t9 = ByteArray.toList s6)) = true then
 (f159 k s6 a7 a8).bind fun t12 => ret (.inr (t12.1, t12.2.1, t12.2.2.1, t12.2.2.2, ([(⟨s1, b2, a3, a4, xs5⟩ : S66)] : List S66)))
 else
 (f159 k s6 a7 a8).bind fun t13 => (f161 k ([(⟨s1, b2, a3, a4, xs5⟩ : S66)] : List S66) t13.1 t13.2.1 t13.2.2.1 t13.2.2.2 ([] : List S66) (((ByteArray.size t9) : Nat) : Int)).bind fun t14 => ret (.inl (t9, false, 0, 0, t14))
def f160i (g88 : ByteArray → Bool → Int → Int → (List S66) → ByteArray → Int → Int → Option ((ByteArray × Bool × Int × Int × (List S66)) ⊕ (ByteArray × Bool × Int × Int × (List S66)))) (k : Nat) (s1 : ByteArray) (b2 : Bool) (a3 a4 : Int) (xs5 : List S66) (s6 : ByteArray) (a7 a8 : Int) : Option ((ByteArray × Bool × Int × Int × (List S66)) ⊕ (ByteArray × Bool × Int × Int × (List S66))) := f160i.step g88 k some s1 b2 a3 a4 xs5 s6 a7 a8
def f160i.w {R : Type} : ((ByteArray × Bool × Int × Int × (List S66)) ⊕ (ByteArray × Bool × Int × Int × (List S66))) → (Res env → Option R) → Option R := fun x K => Sum.elim (fun t15 => K ⟨.v (.g [.s (.string t15.1), .s (.bool t15.2.1), .s (.int .i64 t15.2.2.1), .s (.int .i64 t15.2.2.2.1), .imm 66 t15.2.2.2.2]), [[], []]⟩) (fun t16 => K ⟨.v (.g [.s (.string t16.1), .s (.bool t16.2.1), .s (.int .i64 t16.2.2.1), .s (.int .i64 t16.2.2.2.1), .own false 66 t16.2.2.2.2]), [[], []]⟩) x
theorem f160i.wn (x : ((ByteArray × Bool × Int × Int × (List S66)) ⊕ (ByteArray × Bool × Int × Int × (List S66)))) : ∃ res, ∀ {R : Type} (K : Res env → Option R), f160i.w x K = K res := by
 rcases x with x | x <;> exact ⟨_, fun _ => rfl⟩
def f160i.hd (g88 : ByteArray → Bool → Int → Int → (List S66) → ByteArray → Int → Int → Option ((ByteArray × Bool × Int × Int × (List S66)) ⊕ (ByteArray × Bool × Int × Int × (List S66)))) (k : Nat) (ps_ : List (P2 env)) : Cl env :=
 gC Cl.no ps_ fun p_ ps_ => qG Cl.no p_ fun cs_ => dS Cl.no cs_ fun s1 cs_ => dB Cl.no cs_ fun b2 cs_ => dI Cl.no cs_ fun a3 cs_ => dI Cl.no cs_ fun a4 cs_ => dM Cl.no 66 cs_ fun xs5 cs_ => gE Cl.no cs_ <| gC Cl.no ps_ fun p_ ps_ => qG Cl.no p_ fun cs_ => dS Cl.no cs_ fun s6 cs_ => dI Cl.no cs_ fun a7 cs_ => dI Cl.no cs_ fun a8 cs_ => gE Cl.no cs_ <| gE Cl.no ps_ <| { α := (ByteArray × Bool × Int × Int × (List S66)) ⊕ (ByteArray × Bool × Int × Int × (List S66)), o := f160i g88 k s1 b2 a3 a4 xs5 s6 a7 a8, w := f160i.w, nat := fun x _ => f160i.wn x }
def f160i.e (g88 : ByteArray → Bool → Int → Int → (List S66) → ByteArray → Int → Int → Option ((ByteArray × Bool × Int × Int × (List S66)) ⊕ (ByteArray × Bool × Int × Int × (List S66)))) (k : Nat) : Entry env := ⟨fun ps => f160i.hd g88 k (coer [[.no, .no, .no, .no, .rd 66], [.no, .no, .no]] ps), [], []⟩
def f160i.X (g88 : ByteArray → Bool → Int → Int → (List S66) → ByteArray → Int → Int → Option ((ByteArray × Bool × Int × Int × (List S66)) ⊕ (ByteArray × Bool × Int × Int × (List S66)))) (k : Nat) : Ctx env := { X0 with C := lookE [(88, f88i.eG g88), (159, f159.e k), (161, f161.e k), (192, f192.e k)], eff := fun n => memN n [9] }
theorem f160i.nat {R : Type} (g88 : ByteArray → Bool → Int → Int → (List S66) → ByteArray → Int → Int → Option ((ByteArray × Bool × Int × Int × (List S66)) ⊕ (ByteArray × Bool × Int × Int × (List S66)))) (k : Nat) (g : _ → Option R) (s1 b2 a3 a4 xs5 s6 a7 a8) : f160i.step g88 k g s1 b2 a3 a4 xs5 s6 a7 a8 = (f160i g88 k s1 b2 a3 a4 xs5 s6 a7 a8).bind g := by
 simp only [f160i, f160i.step, bind_ite, bind_sum, oA, oS, oN]
theorem f160i.ev (g88 : ByteArray → Bool → Int → Int → (List S66) → ByteArray → Int → Int → Option ((ByteArray × Bool × Int × Int × (List S66)) ⊕ (ByteArray × Bool × Int × Int × (List S66)))) (k : Nat) (s1 : ByteArray) (b2 : Bool) (a3 a4 : Int) (xs5 : List S66) (s6 : ByteArray) (a7 a8 : Int) : evF (f160i.X g88 k) (bodyOf Try.f160) Try.f160.ntmps Try.f160.results.toList [.g [.s (.string s1), .s (.bool b2), .s (.int .i64 a3), .s (.int .i64 a4), .sl 66 xs5], .g [.s (.string s6), .s (.int .i64 a7), .s (.int .i64 a8)]] = f160i.step g88 k (fun x => f160i.w x some) s1 b2 a3 a4 xs5 s6 a7 a8 := by kernel_rfl
theorem f160i.hok (g88 : ByteArray → Bool → Int → Int → (List S66) → ByteArray → Int → Int → Option ((ByteArray × Bool × Int × Int × (List S66)) ⊕ (ByteArray × Bool × Int × Int × (List S66)))) (k : Nat) : HOK (f160i.X g88 k) (bodyOf Try.f160) where
 l := allP_mem (by exact trivial)
 j := allP_mem (by exact trivial)
 q := allP_mem (by exact trivial)
theorem f160i.sound0 (g88 : ByteArray → Bool → Int → Int → (List S66) → ByteArray → Int → Int → Option ((ByteArray × Bool × Int × Int × (List S66)) ⊕ (ByteArray × Bool × Int × Int × (List S66)))) (hg_ : SoundC env Try.prog 88 (f88i.eG g88).F) (k : Nat) : SoundC env Try.prog 160 (f160i.hd g88 k) := by
 intro ps_
 show GoodC _ _ _ ps_ (f160i.hd g88 k ps_)
 unfold f160i.hd
 have hF_ := fun_sound envOK (cs_sound _ (by exact ⟨⟨hg_, f88.fnok⟩, ⟨f159.sound k, f159.fnok⟩, ⟨f161.sound k, f161.fnok⟩, ⟨f192.sound k, f192.fnok⟩, trivial⟩)) (f160i.hok g88 k) Try.func160 rfl
 have hev_ := f160i.ev g88 k
 have hnat_ := fun g_ => f160i.nat g88 k (R := Res env) g_
 exact rdC
theorem f160i.sound (g88 : ByteArray → Bool → Int → Int → (List S66) → ByteArray → Int → Int → Option ((ByteArray × Bool × Int × Int × (List S66)) ⊕ (ByteArray × Bool × Int × Int × (List S66)))) (hg_ : SoundC env Try.prog 88 (f88i.eG g88).F) (k : Nat) : SoundC env Try.prog 160 (f160i.e g88 k).F := soundC_coer (f160i.sound0 g88 hg_ k) [[.no, .no, .no, .no, .rd 66], [.no, .no, .no]]
theorem f160.fnok : FnOK Try.prog 160 := fn_ok Try.func160 (by kernel_rfl) rfl
def f88i.l8.step {R : Type} (g88 : ByteArray → Bool → Int → Int → (List S66) → ByteArray → Int → Int → Option ((ByteArray × Bool × Int × Int × (List S66)) ⊕ (ByteArray × Bool × Int × Int × (List S66)))) (k : Nat) (rec_ : Bool → Int → ByteArray → Bool → Int → Int → (List S66) → ByteArray → Int → Int → ByteArray → Bool → Int → Int → ByteArray → Bool → Int → Int → (List S66) → Option R) (ret : (Bool × ByteArray × Bool × Int × Int × (List S66) × ByteArray × Int × Int × ByteArray × Bool × Int × Int × ByteArray × Bool × Int × Int × (List S66)) → Option R) (b10 : Bool) (a11 : Int) (s12 : ByteArray) (b13 : Bool) (a14 a15 : Int) (xs16 : List S66) (s17 : ByteArray) (a18 a19 : Int) (s20 : ByteArray) (b21 : Bool) (a22 a23 : Int) (s24 : ByteArray) (b25 : Bool) (a26 a27 : Int) (xs28 : List S66) : Option R :=
 if (decide (a11 < ((List.length xs16) : Int))) = true then
 if 0 ≤ a11 then
 if a11 < ((List.length xs16 : Nat) : Int) then
 if 0 ≤ (((ByteArray.size s12) : Nat) : Int) then
 if (((ByteArray.size s12) : Nat) : Int) < ((ByteArray.size (List.getD xs16 (Int.toNat a11) (⟨ByteArray.empty, false, 0, 0, []⟩ : S66)).f0 : Nat) : Int) then
 if 0 ≤ (((ByteArray.size s12) : Nat) : Int) then
 if (((ByteArray.size s12) : Nat) : Int) < ((ByteArray.size s17 : Nat) : Int) then
 if (decide ((bt (List.getD xs16 (Int.toNat a11) (⟨ByteArray.empty, false, 0, 0, []⟩ : S66)).f0 (((ByteArray.size s12) : Nat) : Int)) ≠ (bt s17 (((ByteArray.size s12) : Nat) : Int)))) = true then
 if (List.length xs28 + List.length ([(⟨(List.getD xs16 (Int.toNat a11) (⟨ByteArray.empty, false, 0, 0, []⟩ : S66)).f0, (List.getD xs16 (Int.toNat a11) (⟨ByteArray.empty, false, 0, 0, []⟩ : S66)).f1, (List.getD xs16 (Int.toNat a11) (⟨ByteArray.empty, false, 0, 0, []⟩ : S66)).f2, (List.getD xs16 (Int.toNat a11) (⟨ByteArray.empty, false, 0, 0, []⟩ : S66)).f3, (List.getD xs16 (Int.toNat a11) (⟨ByteArray.empty, false, 0, 0, []⟩ : S66)).f4⟩ : S66)] : List S66)) * 64 ≤ maxN then
 rec_ b10 (IntKind.i64.wrap (a11 + 1)) s12 b13 a14 a15 xs16 s17 a18 a19 s20 b21 a22 a23 s24 b25 a26 a27 (xs28 ++ ([(⟨(List.getD xs16 (Int.toNat a11) (⟨ByteArray.empty, false, 0, 0, []⟩ : S66)).f0, (List.getD xs16 (Int.toNat a11) (⟨ByteArray.empty, false, 0, 0, []⟩ : S66)).f1, (List.getD xs16 (Int.toNat a11) (⟨ByteArray.empty, false, 0, 0, []⟩ : S66)).f2, (List.getD xs16 (Int.toNat a11) (⟨ByteArray.empty, false, 0, 0, []⟩ : S66)).f3, (List.getD xs16 (Int.toNat a11) (⟨ByteArray.empty, false, 0, 0, []⟩ : S66)).f4⟩ : S66)] : List S66))
 else none
 else
 (f160i g88 k (List.getD xs16 (Int.toNat a11) (⟨ByteArray.empty, false, 0, 0, []⟩ : S66)).f0 (List.getD xs16 (Int.toNat a11) (⟨ByteArray.empty, false, 0, 0, []⟩ : S66)).f1 (List.getD xs16 (Int.toNat a11) (⟨ByteArray.empty, false, 0, 0, []⟩ : S66)).f2 (List.getD xs16 (Int.toNat a11) (⟨ByteArray.empty, false, 0, 0, []⟩ : S66)).f3 (List.getD xs16 (Int.toNat a11) (⟨ByteArray.empty, false, 0, 0, []⟩ : S66)).f4 s17 a18 a19).bind (Sum.elim (fun t29 => if (List.length xs28 + List.length ([(⟨t29.1, t29.2.1, t29.2.2.1, t29.2.2.2.1, t29.2.2.2.2⟩ : S66)] : List S66)) * 64 ≤ maxN then
 rec_ true (IntKind.i64.wrap (a11 + 1)) s12 b13 a14 a15 xs16 s17 a18 a19 s20 b21 a22 a23 s24 b25 a26 a27 (xs28 ++ ([(⟨t29.1, t29.2.1, t29.2.2.1, t29.2.2.2.1, t29.2.2.2.2⟩ : S66)] : List S66))
 else none) (fun t30 => if (List.length xs28 + List.length ([(⟨t30.1, t30.2.1, t30.2.2.1, t30.2.2.2.1, t30.2.2.2.2⟩ : S66)] : List S66)) * 64 ≤ maxN then
 rec_ true (IntKind.i64.wrap (a11 + 1)) s12 b13 a14 a15 xs16 s17 a18 a19 s20 b21 a22 a23 s24 b25 a26 a27 (xs28 ++ ([(⟨t30.1, t30.2.1, t30.2.2.1, t30.2.2.2.1, t30.2.2.2.2⟩ : S66)] : List S66))
 else none))
 else none
 else none
 else none
 else none
 else none
 else none
 else
 ret (b10, s12, b13, a14, a15, xs16, s17, a18, a19, s20, b21, a22, a23, s24, b25, a26, a27, xs28)
def f88i.l8 (g88 : ByteArray → Bool → Int → Int → (List S66) → ByteArray → Int → Int → Option ((ByteArray × Bool × Int × Int × (List S66)) ⊕ (ByteArray × Bool × Int × Int × (List S66)))) (k : Nat) : Nat → Bool → Int → ByteArray → Bool → Int → Int → (List S66) → ByteArray → Int → Int → ByteArray → Bool → Int → Int → ByteArray → Bool → Int → Int → (List S66) → Option (Bool × ByteArray × Bool × Int × Int × (List S66) × ByteArray × Int × Int × ByteArray × Bool × Int × Int × ByteArray × Bool × Int × Int × (List S66))
 | 0, _, _, _, _, _, _, _, _, _, _, _, _, _, _, _, _, _, _, _ => none
 | j + 1, b10, a11, s12, b13, a14, a15, xs16, s17, a18, a19, s20, b21, a22, a23, s24, b25, a26, a27, xs28 => f88i.l8.step g88 k (fun b10 a11 s12 b13 a14 a15 xs16 s17 a18 a19 s20 b21 a22 a23 s24 b25 a26 a27 xs28 => f88i.l8 g88 k j b10 a11 s12 b13 a14 a15 xs16 s17 a18 a19 s20 b21 a22 a23 s24 b25 a26 a27 xs28) some b10 a11 s12 b13 a14 a15 xs16 s17 a18 a19 s20 b21 a22 a23 s24 b25 a26 a27 xs28
def f88i.l8.w {R : Type} : (Bool × ByteArray × Bool × Int × Int × (List S66) × ByteArray × Int × Int × ByteArray × Bool × Int × Int × ByteArray × Bool × Int × Int × (List S66)) → (Exit → St env → Option R) → Option R := fun t34 K => let t34_a := t34.2.2.2.2.2.2.2.2; let t34_b := t34_a.2.2.2.2.2.2.2.2; K (.exit 0) ⟨fullT [2, 3, 4, 5, 6] 0 80 [.v (.c (.bp 2 0)), .v (.c (.bp 18 0)), .v (.c (.bp 34 0)), .v (.c (.bp 194 0)), .v (.c (.s (.bool t34.1)))], [(2, .box [.s (.string t34.2.1), .s (.bool t34.2.2.1), .s (.int .i64 t34.2.2.2.1), .s (.int .i64 t34.2.2.2.2.1), .imm 66 t34.2.2.2.2.2.1]), (18, .box [.s (.string t34.2.2.2.2.2.2.1), .s (.int .i64 t34.2.2.2.2.2.2.2.1), .s (.int .i64 t34_a.1)]), (34, .box [.s (.string t34_a.2.1), .s (.bool t34_a.2.2.1), .s (.int .i64 t34_a.2.2.2.1), .s (.int .i64 t34_a.2.2.2.2.1), .s (.slice none 0 0)]), (194, .box [.s (.string t34_a.2.2.2.2.2.1), .s (.bool t34_a.2.2.2.2.2.2.1), .s (.int .i64 t34_a.2.2.2.2.2.2.2.1), .s (.int .i64 t34_b.1), .row 338]), (338, .row false 66 t34_b.2)], 1074⟩
def f88i.l8.st (b10 : Bool) (a11 : Int) (s12 : ByteArray) (b13 : Bool) (a14 a15 : Int) (xs16 : List S66) (s17 : ByteArray) (a18 a19 : Int) (s20 : ByteArray) (b21 : Bool) (a22 a23 : Int) (s24 : ByteArray) (b25 : Bool) (a26 a27 : Int) (xs28 : List S66) : St env := ⟨fullT [2, 3, 4, 5, 6, 7] 0 80 [.v (.c (.bp 2 0)), .v (.c (.bp 18 0)), .v (.c (.bp 34 0)), .v (.c (.bp 194 0)), .v (.c (.s (.bool b10))), .v (.c (.s (.int .i64 a11)))], [(2, .box [.s (.string s12), .s (.bool b13), .s (.int .i64 a14), .s (.int .i64 a15), .imm 66 xs16]), (18, .box [.s (.string s17), .s (.int .i64 a18), .s (.int .i64 a19)]), (34, .box [.s (.string s20), .s (.bool b21), .s (.int .i64 a22), .s (.int .i64 a23), .s (.slice none 0 0)]), (194, .box [.s (.string s24), .s (.bool b25), .s (.int .i64 a26), .s (.int .i64 a27), .row 338]), (338, .row false 66 xs28)], 354⟩
def f88i.l8.hd (g88 : ByteArray → Bool → Int → Int → (List S66) → ByteArray → Int → Int → Option ((ByteArray × Bool × Int × Int × (List S66)) ⊕ (ByteArray × Bool × Int × Int × (List S66)))) (k : Nat) (ts_ : List (AV env)) (mm_ : Mem env) (n_ : Nat) : LCl env :=
 gTs Ln [2, 3, 4, 5, 6, 7] 80 ts_ fun l_ => tP Ln 2 l_ fun l_ => tP Ln 18 l_ fun l_ => tP Ln 34 l_ fun l_ => tP Ln 194 l_ fun l_ => tB Ln l_ fun b10 l_ => tI Ln l_ fun a11 l_ => gE Ln l_ <| mBox Ln 2 mm_ fun c_ m_ => cS Ln c_ fun s12 c_ => cB Ln c_ fun b13 c_ => cI Ln c_ fun a14 c_ => cI Ln c_ fun a15 c_ => cM Ln 66 c_ fun xs16 c_ => gE Ln c_ <| mBox Ln 18 m_ fun c_ m_ => cS Ln c_ fun s17 c_ => cI Ln c_ fun a18 c_ => cI Ln c_ fun a19 c_ => gE Ln c_ <| mBox Ln 34 m_ fun c_ m_ => cS Ln c_ fun s20 c_ => cB Ln c_ fun b21 c_ => cI Ln c_ fun a22 c_ => cI Ln c_ fun a23 c_ => cN Ln c_ fun c_ => gE Ln c_ <| mBox Ln 194 m_ fun c_ m_ => cS Ln c_ fun s24 c_ => cB Ln c_ fun b25 c_ => cI Ln c_ fun a26 c_ => cI Ln c_ fun a27 c_ => cR Ln 338 c_ fun c_ => gE Ln c_ <| mRow Ln 338 false 66 m_ fun xs28 m_ => gE Ln m_ <| gN Ln 354 n_ { α := Bool × ByteArray × Bool × Int × Int × (List S66) × ByteArray × Int × Int × ByteArray × Bool × Int × Int × ByteArray × Bool × Int × Int × (List S66), o := f88i.l8 g88 k k b10 a11 s12 b13 a14 a15 xs16 s17 a18 a19 s20 b21 a22 a23 s24 b25 a26 a27 xs28, w := f88i.l8.w }
def f88i.step {R : Type} (g88 : ByteArray → Bool → Int → Int → (List S66) → ByteArray → Int → Int → Option ((ByteArray × Bool × Int × Int × (List S66)) ⊕ (ByteArray × Bool × Int × Int × (List S66)))) (k : Nat) (ret : ((ByteArray × Bool × Int × Int × (List S66)) ⊕ (ByteArray × Bool × Int × Int × (List S66))) → Option R) (s1 : ByteArray) (b2 : Bool) (a3 a4 : Int) (xs5 : List S66) (s6 : ByteArray) (a7 a8 : Int) : Option R :=
 if (decide (ByteArray.toList s1 = ByteArray.toList s6)) = true then
 (f159 k s6 a7 a8).bind fun t9 => ret (.inl (t9.1, t9.2.1, t9.2.2.1, t9.2.2.2, xs5))
 else
 (f88i.l8 g88 k k false 0 s1 b2 a3 a4 xs5 s6 a7 a8 ByteArray.empty false 0 0 s1 b2 a3 a4 ([] : List S66)).bind fun t31 => (let t31_a := t31.2.2.2.2.2.2.2.2; let t31_b := t31_a.2.2.2.2.2.2.2.2; let t31_0 := t31_a.2.2.2.2.2.1; let t31_1 := t31_a.2.2.2.2.2.2.1; let t31_2 := t31_a.2.2.2.2.2.2.2.1; let t31_3 := t31_b.2; let t31_4 := t31_b.1; if (!t31.1) = true then
 (f159 k t31.2.2.2.2.2.2.1 t31.2.2.2.2.2.2.2.1 t31_a.1).bind fun t32 => (f161 k t31_3 t32.1 t32.2.1 t32.2.2.1 t32.2.2.2 ([] : List S66) (((ByteArray.size t31.2.1) : Nat) : Int)).bind fun t33 => ret (.inl (t31_0, t31_1, t31_2, t31_4, t33))
 else
 ret (.inr (t31_0, t31_1, t31_2, t31_4, t31_3)))
def f88i (g88 : ByteArray → Bool → Int → Int → (List S66) → ByteArray → Int → Int → Option ((ByteArray × Bool × Int × Int × (List S66)) ⊕ (ByteArray × Bool × Int × Int × (List S66)))) (k : Nat) (s1 : ByteArray) (b2 : Bool) (a3 a4 : Int) (xs5 : List S66) (s6 : ByteArray) (a7 a8 : Int) : Option ((ByteArray × Bool × Int × Int × (List S66)) ⊕ (ByteArray × Bool × Int × Int × (List S66))) := f88i.step g88 k some s1 b2 a3 a4 xs5 s6 a7 a8
def f88i.hd (g88 : ByteArray → Bool → Int → Int → (List S66) → ByteArray → Int → Int → Option ((ByteArray × Bool × Int × Int × (List S66)) ⊕ (ByteArray × Bool × Int × Int × (List S66)))) (k : Nat) (ps_ : List (P2 env)) : Cl env := f88i.hdG (f88i g88 k) ps_
def f88i.e (g88 : ByteArray → Bool → Int → Int → (List S66) → ByteArray → Int → Int → Option ((ByteArray × Bool × Int × Int × (List S66)) ⊕ (ByteArray × Bool × Int × Int × (List S66)))) (k : Nat) : Entry env := f88i.eG (f88i g88 k)
def f88i.X (g88 : ByteArray → Bool → Int → Int → (List S66) → ByteArray → Int → Int → Option ((ByteArray × Bool × Int × Int × (List S66)) ⊕ (ByteArray × Bool × Int × Int × (List S66)))) (k : Nat) : Ctx env := { X0 with C := lookE [(159, f159.e k), (160, f160i.e g88 k), (161, f161.e k)], L := lookE [(8, fun S => f88i.l8.hd g88 k S.ts S.m S.n)], keep := lookD [(8, [2, 3, 4, 5, 6, 7])], keepX := lookD [(8, [2, 3, 4, 5, 6])], span := lookN [(8, 720)], eff := fun n => memN n [14, 16], prep := lookP [(8, [.nilB 194 4 66, .weak 338])] }
theorem f88i.l8.nat {R : Type} (g88 : ByteArray → Bool → Int → Int → (List S66) → ByteArray → Int → Int → Option ((ByteArray × Bool × Int × Int × (List S66)) ⊕ (ByteArray × Bool × Int × Int × (List S66)))) (k : Nat) (rec_) (g : _ → Option R) (b10 a11 s12 b13 a14 a15 xs16 s17 a18 a19 s20 b21 a22 a23 s24 b25 a26 a27 xs28) : (f88i.l8.step g88 k rec_ some b10 a11 s12 b13 a14 a15 xs16 s17 a18 a19 s20 b21 a22 a23 s24 b25 a26 a27 xs28).bind g = f88i.l8.step g88 k (fun b10 a11 s12 b13 a14 a15 xs16 s17 a18 a19 s20 b21 a22 a23 s24 b25 a26 a27 xs28 => (rec_ b10 a11 s12 b13 a14 a15 xs16 s17 a18 a19 s20 b21 a22 a23 s24 b25 a26 a27 xs28).bind g) g b10 a11 s12 b13 a14 a15 xs16 s17 a18 a19 s20 b21 a22 a23 s24 b25 a26 a27 xs28 := by
 simp only [f88i.l8.step, bind_ite, bind_sum, oA, oS, oN]
theorem f88i.l8.good (g88 : ByteArray → Bool → Int → Int → (List S66) → ByteArray → Int → Int → Option ((ByteArray × Bool × Int × Int × (List S66)) ⊕ (ByteArray × Bool × Int × Int × (List S66)))) (k : Nat) (b10 a11 s12 b13 a14 a15 xs16 s17 a18 a19 s20 b21 a22 a23 s24 b25 a26 a27 xs28) : GoodL (f88i.X g88 k) (nthC 0 (loopsOf (bodyOf Try.f88))) (f88i.l8.st b10 a11 s12 b13 a14 a15 xs16 s17 a18 a19 s20 b21 a22 a23 s24 b25 a26 a27 xs28) { α := _, o := f88i.l8 g88 k k b10 a11 s12 b13 a14 a15 xs16 s17 a18 a19 s20 b21 a22 a23 s24 b25 a26 a27 xs28, w := f88i.l8.w } :=
 loop_good (ι := Bool × Int × ByteArray × Bool × Int × Int × (List S66) × ByteArray × Int × Int × ByteArray × Bool × Int × Int × ByteArray × Bool × Int × Int × (List S66)) (α := (Bool × ByteArray × Bool × Int × Int × (List S66) × ByteArray × Int × Int × ByteArray × Bool × Int × Int × ByteArray × Bool × Int × Int × (List S66))) (fun i => let i_a := i.2.2.2.2.2.2.2.2; let i_b := i_a.2.2.2.2.2.2.2.2; f88i.l8.st i.1 i.2.1 i.2.2.1 i.2.2.2.1 i.2.2.2.2.1 i.2.2.2.2.2.1 i.2.2.2.2.2.2.1 i.2.2.2.2.2.2.2.1 i_a.1 i_a.2.1 i_a.2.2.1 i_a.2.2.2.1 i_a.2.2.2.2.1 i_a.2.2.2.2.2.1 i_a.2.2.2.2.2.2.1 i_a.2.2.2.2.2.2.2.1 i_b.1 i_b.2.1 i_b.2.2) (fun j i => let i_a := i.2.2.2.2.2.2.2.2; let i_b := i_a.2.2.2.2.2.2.2.2; f88i.l8 g88 k j i.1 i.2.1 i.2.2.1 i.2.2.2.1 i.2.2.2.2.1 i.2.2.2.2.2.1 i.2.2.2.2.2.2.1 i.2.2.2.2.2.2.2.1 i_a.1 i_a.2.1 i_a.2.2.1 i_a.2.2.2.1 i_a.2.2.2.2.1 i_a.2.2.2.2.2.1 i_a.2.2.2.2.2.2.1 i_a.2.2.2.2.2.2.2.1 i_b.1 i_b.2.1 i_b.2.2) f88i.l8.w (fun rec_ ret i => let i_a := i.2.2.2.2.2.2.2.2; let i_b := i_a.2.2.2.2.2.2.2.2; f88i.l8.step g88 k (fun b10 a11 s12 b13 a14 a15 xs16 s17 a18 a19 s20 b21 a22 a23 s24 b25 a26 a27 xs28 => rec_ (b10, a11, s12, b13, a14, a15, xs16, s17, a18, a19, s20, b21, a22, a23, s24, b25, a26, a27, xs28)) ret i.1 i.2.1 i.2.2.1 i.2.2.2.1 i.2.2.2.2.1 i.2.2.2.2.2.1 i.2.2.2.2.2.2.1 i.2.2.2.2.2.2.2.1 i_a.1 i_a.2.1 i_a.2.2.1 i_a.2.2.2.1 i_a.2.2.2.2.1 i_a.2.2.2.2.2.1 i_a.2.2.2.2.2.2.1 i_a.2.2.2.2.2.2.2.1 i_b.1 i_b.2.1 i_b.2.2)
  (fun _ => rfl) (fun _ _ => rfl) (fun rec_ g i => let i_a := i.2.2.2.2.2.2.2.2; let i_b := i_a.2.2.2.2.2.2.2.2; f88i.l8.nat g88 k _ g i.1 i.2.1 i.2.2.1 i.2.2.2.1 i.2.2.2.2.1 i.2.2.2.2.2.1 i.2.2.2.2.2.2.1 i.2.2.2.2.2.2.2.1 i_a.1 i_a.2.1 i_a.2.2.1 i_a.2.2.2.1 i_a.2.2.2.2.1 i_a.2.2.2.2.2.1 i_a.2.2.2.2.2.2.1 i_a.2.2.2.2.2.2.2.1 i_b.1 i_b.2.1 i_b.2.2) (fun {R} i0 i rec_ K => by kernel_rfl) k (b10, a11, s12, b13, a14, a15, xs16, s17, a18, a19, s20, b21, a22, a23, s24, b25, a26, a27, xs28)
theorem f88i.l8.all (g88 : ByteArray → Bool → Int → Int → (List S66) → ByteArray → Int → Int → Option ((ByteArray × Bool × Int × Int × (List S66)) ⊕ (ByteArray × Bool × Int × Int × (List S66)))) (k : Nat) (S : St env) : GoodL (f88i.X g88 k) (nthC 0 (loopsOf (bodyOf Try.f88))) S (f88i.l8.hd g88 k S.ts S.m S.n) := by
 obtain ⟨ts_, m_, n_⟩ := S
 show GoodL _ _ _ (f88i.l8.hd g88 k ts_ m_ n_)
 unfold f88i.l8.hd
 have hg_ := f88i.l8.good g88 k
 exact rdL
theorem f88i.nat {R : Type} (g88 : ByteArray → Bool → Int → Int → (List S66) → ByteArray → Int → Int → Option ((ByteArray × Bool × Int × Int × (List S66)) ⊕ (ByteArray × Bool × Int × Int × (List S66)))) (k : Nat) (g : _ → Option R) (s1 b2 a3 a4 xs5 s6 a7 a8) : f88i.step g88 k g s1 b2 a3 a4 xs5 s6 a7 a8 = (f88i g88 k s1 b2 a3 a4 xs5 s6 a7 a8).bind g := by
 simp only [f88i, f88i.step, bind_ite, bind_sum, oA, oS, oN]
theorem f88i.ev (g88 : ByteArray → Bool → Int → Int → (List S66) → ByteArray → Int → Int → Option ((ByteArray × Bool × Int × Int × (List S66)) ⊕ (ByteArray × Bool × Int × Int × (List S66)))) (k : Nat) (s1 : ByteArray) (b2 : Bool) (a3 a4 : Int) (xs5 : List S66) (s6 : ByteArray) (a7 a8 : Int) : evF (f88i.X g88 k) (bodyOf Try.f88) Try.f88.ntmps Try.f88.results.toList [.g [.s (.string s1), .s (.bool b2), .s (.int .i64 a3), .s (.int .i64 a4), .sl 66 xs5], .g [.s (.string s6), .s (.int .i64 a7), .s (.int .i64 a8)]] = f88i.step g88 k (fun x => f88i.w x some) s1 b2 a3 a4 xs5 s6 a7 a8 := by kernel_rfl
theorem f88i.hok (g88 : ByteArray → Bool → Int → Int → (List S66) → ByteArray → Int → Int → Option ((ByteArray × Bool × Int × Int × (List S66)) ⊕ (ByteArray × Bool × Int × Int × (List S66)))) (k : Nat) : HOK (f88i.X g88 k) (bodyOf Try.f88) where
 l := allP_mem (by exact ⟨ls_of (h0 := fun S => f88i.l8.hd g88 k S.ts S.m S.n) (by kernel_rfl) (f88i.l8.all g88 k), trivial⟩)
 j := allP_mem (by exact trivial)
 q := allP_mem (by exact trivial)
theorem f88i.sound0 (g88 : ByteArray → Bool → Int → Int → (List S66) → ByteArray → Int → Int → Option ((ByteArray × Bool × Int × Int × (List S66)) ⊕ (ByteArray × Bool × Int × Int × (List S66)))) (hg_ : SoundC env Try.prog 88 (f88i.eG g88).F) (k : Nat) : SoundC env Try.prog 88 (f88i.hd g88 k) := by
 intro ps_
 show GoodC _ _ _ ps_ (f88i.hd g88 k ps_)
 unfold f88i.hd f88i.hdG
 have hF_ := fun_sound envOK (cs_sound _ (by exact ⟨⟨f159.sound k, f159.fnok⟩, ⟨f160i.sound g88 hg_ k, f160.fnok⟩, ⟨f161.sound k, f161.fnok⟩, trivial⟩)) (f88i.hok g88 k) Try.func88 rfl
 have hev_ := f88i.ev g88 k
 have hnat_ := fun g_ => f88i.nat g88 k (R := Res env) g_
 exact rdC
theorem f88i.sound (g88 : ByteArray → Bool → Int → Int → (List S66) → ByteArray → Int → Int → Option ((ByteArray × Bool × Int × Int × (List S66)) ⊕ (ByteArray × Bool × Int × Int × (List S66)))) (hg_ : SoundC env Try.prog 88 (f88i.eG g88).F) (k : Nat) : SoundC env Try.prog 88 (f88i.e g88 k).F := soundC_coer (f88i.sound0 g88 hg_ k) [[.no, .no, .no, .no, .rd 66], [.no, .no, .no]]
def f88i.r (k : Nat) : Nat → ByteArray → Bool → Int → Int → (List S66) → ByteArray → Int → Int → Option ((ByteArray × Bool × Int × Int × (List S66)) ⊕ (ByteArray × Bool × Int × Int × (List S66)))
 | 0 => fun _ _ _ _ _ _ _ _ => none
 | j + 1 => fun s1 b2 a3 a4 xs5 s6 a7 a8 => f88i (f88i.r k j) k s1 b2 a3 a4 xs5 s6 a7 a8
theorem f88i.all_ (k : Nat) : ∀ j, SoundC env Try.prog 88 (f88i.eG (f88i.r k j)).F
 | 0 => f88i.none_
 | j + 1 => f88i.sound (f88i.r k j) (f88i.all_ k j) k
def f88 (k : Nat) (s1 : ByteArray) (b2 : Bool) (a3 a4 : Int) (xs5 : List S66) (s6 : ByteArray) (a7 a8 : Int) : Option ((ByteArray × Bool × Int × Int × (List S66)) ⊕ (ByteArray × Bool × Int × Int × (List S66))) := f88i.r k k s1 b2 a3 a4 xs5 s6 a7 a8
def f88.e (k : Nat) : Entry env := f88i.eG (f88 k)
theorem f88.sound (k : Nat) : SoundC env Try.prog 88 (f88.e k).F := f88i.all_ k k
def f160 (k : Nat) (s1 : ByteArray) (b2 : Bool) (a3 a4 : Int) (xs5 : List S66) (s6 : ByteArray) (a7 a8 : Int) : Option ((ByteArray × Bool × Int × Int × (List S66)) ⊕ (ByteArray × Bool × Int × Int × (List S66))) := f160i (f88 k) k s1 b2 a3 a4 xs5 s6 a7 a8
def f160.e (k : Nat) : Entry env := f160i.e (f88 k) k
theorem f160.sound (k : Nat) : SoundC env Try.prog 160 (f160.e k).F := f160i.sound (f88 k) (f88.sound k) k
def f168.l5.step {R : Type} (k : Nat) (rec_ : Int → (List Int) → Int → Int → (List Int) → Option R) (ret : ((List Int) × Int × Int × (List Int)) → Option R) (a6 : Int) (xs7 : List Int) (a8 a9 : Int) (xs10 : List Int) : Option R :=
 if (decide (a6 > 0)) = true then
 (f139 k xs7 a8 a9 16).bind fun t11 => (f139 k t11.2.1 t11.2.2.1 t11.2.2.2 256).bind fun t12 => if 0 ≤ t11.1 then
 if t11.1 < ((List.length xs10 : Nat) : Int) then
 rec_ (IntKind.i64.wrap (a6 - 1)) t12.2.1 t12.2.2.1 t12.2.2.2 (List.set xs10 (Int.toNat t11.1) (IntKind.u8.wrap t12.1))
 else none
 else none
 else
 ret (xs7, a8, a9, xs10)
def f168.l5 (k : Nat) : Nat → Int → (List Int) → Int → Int → (List Int) → Option ((List Int) × Int × Int × (List Int))
 | 0, _, _, _, _, _ => none
 | j + 1, a6, xs7, a8, a9, xs10 => f168.l5.step k (fun a6 xs7 a8 a9 xs10 => f168.l5 k j a6 xs7 a8 a9 xs10) some a6 xs7 a8 a9 xs10
def f168.l5.w {R : Type} : ((List Int) × Int × Int × (List Int)) → (Exit → St env → Option R) → Option R := fun t14 K => K (.exit 0) ⟨fullT [0, 3] 0 28 [.v (.c (.bp 0 0)), .v (.c (.row 17))], [(0, .box [.imm 5 t14.1, .s (.int .i64 t14.2.1), .s (.int .i64 t14.2.2.1)]), (17, .row true 5 t14.2.2.2)], 449⟩
def f168.l5.st (a6 : Int) (xs7 : List Int) (a8 a9 : Int) (xs10 : List Int) : St env := ⟨fullT [0, 3, 4] 0 28 [.v (.c (.bp 0 0)), .v (.c (.row 17)), .v (.c (.s (.int .i64 a6)))], [(0, .box [.imm 5 xs7, .s (.int .i64 a8), .s (.int .i64 a9)]), (17, .row true 5 xs10)], 241⟩
def f168.l5.hd (k : Nat) (ts_ : List (AV env)) (mm_ : Mem env) (n_ : Nat) : LCl env :=
 gTs Ln [0, 3, 4] 28 ts_ fun l_ => tP Ln 0 l_ fun l_ => tR Ln 17 l_ fun l_ => tI Ln l_ fun a6 l_ => gE Ln l_ <| mBox Ln 0 mm_ fun c_ m_ => cM Ln 5 c_ fun xs7 c_ => cI Ln c_ fun a8 c_ => cI Ln c_ fun a9 c_ => gE Ln c_ <| mRow Ln 17 true 5 m_ fun xs10 m_ => gE Ln m_ <| gN Ln 241 n_ { α := (List Int) × Int × Int × (List Int), o := f168.l5 k k a6 xs7 a8 a9 xs10, w := f168.l5.w }
def f168.step {R : Type} (k : Nat) (ret : (ByteArray × (List Int) × Int × Int) → Option R) (xs1 : List Int) (a2 a3 : Int) : Option R :=
 if (0 : Int) < ((List.length (List.replicate 16 (0 : Int)) : Nat) : Int) then
 (f139 k xs1 a2 a3 (2 : Int)).bind fun t4 => if (1 : Int) < ((List.length (List.set (List.replicate 16 (0 : Int)) 0 (32 : Int)) : Nat) : Int) then
 (f139 k t4.2.1 t4.2.2.1 t4.2.2.2 (4 : Int)).bind fun t5 => (f168.l5 k k t5.1 t5.2.1 t5.2.2.1 t5.2.2.2 (List.set (List.set (List.replicate 16 (0 : Int)) 0 (32 : Int)) 1 (IntKind.u8.wrap t4.1))).bind fun t13 => ret ((strOf t13.2.2.2), t13.1, t13.2.1, t13.2.2.1)
 else none
 else none
def f168 (k : Nat) (xs1 : List Int) (a2 a3 : Int) := f168.step k some xs1 a2 a3
def f168.w {R : Type} : (ByteArray × (List Int) × Int × Int) → (Res env → Option R) → Option R := fun t15 K => K ⟨.v (.c (.s (.string t15.1))), [[.sl 5 t15.2.1, .s (.int .i64 t15.2.2.1), .s (.int .i64 t15.2.2.2)]]⟩
theorem f168.wn (x : (ByteArray × (List Int) × Int × Int)) : ∃ res, ∀ {R : Type} (K : Res env → Option R), f168.w x K = K res := by
 exact ⟨_, fun _ => rfl⟩
def f168.hd (k : Nat) (ps_ : List (P2 env)) : Cl env :=
 gC Cl.no ps_ fun p_ ps_ => qP Cl.no p_ fun cs_ => dM Cl.no 5 cs_ fun xs1 cs_ => dI Cl.no cs_ fun a2 cs_ => dI Cl.no cs_ fun a3 cs_ => gE Cl.no cs_ <| gE Cl.no ps_ <| { α := ByteArray × (List Int) × Int × Int, o := f168 k xs1 a2 a3, w := f168.w, nat := fun x _ => f168.wn x }
def f168.e (k : Nat) : Entry env := ⟨fun ps => f168.hd k (coer [[.rd 5, .no, .no]] ps), [], []⟩
def f168.X (k : Nat) : Ctx env := { X0 with C := lookE [(139, f139.e k)], L := lookE [(5, fun S => f168.l5.hd k S.ts S.m S.n)], keep := lookD [(5, [0, 3, 4])], keepX := lookD [(5, [0, 3])], span := lookN [(5, 208)] }
theorem f168.l5.nat {R : Type} (k : Nat) (rec_) (g : _ → Option R) (a6 xs7 a8 a9 xs10) : (f168.l5.step k rec_ some a6 xs7 a8 a9 xs10).bind g = f168.l5.step k (fun a6 xs7 a8 a9 xs10 => (rec_ a6 xs7 a8 a9 xs10).bind g) g a6 xs7 a8 a9 xs10 := by
 simp only [f168.l5.step, bind_ite, bind_sum, oA, oS, oN]
theorem f168.l5.good (k : Nat) (a6 xs7 a8 a9 xs10) : GoodL (f168.X k) (nthC 0 (loopsOf (bodyOf Try.f168))) (f168.l5.st a6 xs7 a8 a9 xs10) { α := _, o := f168.l5 k k a6 xs7 a8 a9 xs10, w := f168.l5.w } :=
 loop_good (ι := Int × (List Int) × Int × Int × (List Int)) (α := ((List Int) × Int × Int × (List Int))) (fun i => f168.l5.st i.1 i.2.1 i.2.2.1 i.2.2.2.1 i.2.2.2.2) (fun j i => f168.l5 k j i.1 i.2.1 i.2.2.1 i.2.2.2.1 i.2.2.2.2) f168.l5.w (fun rec_ ret i => f168.l5.step k (fun a6 xs7 a8 a9 xs10 => rec_ (a6, xs7, a8, a9, xs10)) ret i.1 i.2.1 i.2.2.1 i.2.2.2.1 i.2.2.2.2)
  (fun _ => rfl) (fun _ _ => rfl) (fun rec_ g i => f168.l5.nat k _ g i.1 i.2.1 i.2.2.1 i.2.2.2.1 i.2.2.2.2) (fun {R} i0 i rec_ K => by kernel_rfl) k (a6, xs7, a8, a9, xs10)
theorem f168.l5.all (k : Nat) (S : St env) : GoodL (f168.X k) (nthC 0 (loopsOf (bodyOf Try.f168))) S (f168.l5.hd k S.ts S.m S.n) := by
 obtain ⟨ts_, m_, n_⟩ := S
 show GoodL _ _ _ (f168.l5.hd k ts_ m_ n_)
 unfold f168.l5.hd
 have hg_ := f168.l5.good k
 exact rdL
theorem f168.nat {R : Type} (k : Nat) (g : _ → Option R) (xs1 a2 a3) : f168.step k g xs1 a2 a3 = (f168 k xs1 a2 a3).bind g := by
 simp only [f168, f168.step, bind_ite, bind_sum, oA, oS, oN]
theorem f168.ev (k : Nat) (xs1 : List Int) (a2 a3 : Int) : evF (f168.X k) (bodyOf Try.f168) Try.f168.ntmps Try.f168.results.toList [.v (.ptr [.sl 5 xs1, .s (.int .i64 a2), .s (.int .i64 a3)])] = f168.step k (fun x => f168.w x some) xs1 a2 a3 := by kernel_rfl
theorem f168.hok (k : Nat) : HOK (f168.X k) (bodyOf Try.f168) where
 l := allP_mem (by exact ⟨ls_of (h0 := fun S => f168.l5.hd k S.ts S.m S.n) (by kernel_rfl) (f168.l5.all k), trivial⟩)
 j := allP_mem (by exact trivial)
 q := allP_mem (by exact trivial)
theorem f168.sound0 (k : Nat) : SoundC env Try.prog 168 (f168.hd k) := by
 intro ps_
 show GoodC _ _ _ ps_ (f168.hd k ps_)
 unfold f168.hd
 have hF_ := fun_sound envOK (cs_sound _ (by exact ⟨⟨f139.sound k, f139.fnok⟩, trivial⟩)) (f168.hok k) Try.func168 rfl
 have hev_ := f168.ev k
 have hnat_ := fun g_ => f168.nat k (R := Res env) g_
 exact rdC
theorem f168.sound (k : Nat) : SoundC env Try.prog 168 (f168.e k).F := soundC_coer (f168.sound0 k) [[.rd 5, .no, .no]]
theorem f168.fnok : FnOK Try.prog 168 := fn_ok Try.func168 (by kernel_rfl) rfl
def f90i.w {R : Type} : (ByteArray × Bool × Int × Int × (List S66)) → (Res env → Option R) → Option R := fun t24 K => K ⟨.v (.g [.s (.string t24.1), .s (.bool t24.2.1), .s (.int .i64 t24.2.2.1), .s (.int .i64 t24.2.2.2.1), .own true 66 t24.2.2.2.2]), [[]]⟩
theorem f90i.wn (x : (ByteArray × Bool × Int × Int × (List S66))) : ∃ res, ∀ {R : Type} (K : Res env → Option R), f90i.w x K = K res := by
 exact ⟨_, fun _ => rfl⟩
def f90i.hdG (G_ : ByteArray → Bool → Int → Int → (List S66) → Option (ByteArray × Bool × Int × Int × (List S66))) (ps_ : List (P2 env)) : Cl env :=
 gC Cl.no ps_ fun p_ ps_ => qG Cl.no p_ fun cs_ => dS Cl.no cs_ fun s1 cs_ => dB Cl.no cs_ fun b2 cs_ => dI Cl.no cs_ fun a3 cs_ => dI Cl.no cs_ fun a4 cs_ => dM Cl.no 66 cs_ fun xs5 cs_ => gE Cl.no cs_ <| gE Cl.no ps_ <| { α := ByteArray × Bool × Int × Int × (List S66), o := G_ s1 b2 a3 a4 xs5, w := f90i.w, nat := fun x _ => f90i.wn x }
def f90i.eG (G_ : ByteArray → Bool → Int → Int → (List S66) → Option (ByteArray × Bool × Int × Int × (List S66))) : Entry env := ⟨fun ps => f90i.hdG G_ (coer [[.no, .no, .no, .no, .rd 66]] ps), [], []⟩
theorem f90i.none_ : SoundC env Try.prog 90 (f90i.eG (fun _ _ _ _ _ => none)).F := by
 refine soundC_coer (F := f90i.hdG (fun _ _ _ _ _ => none)) ?_ [[.no, .no, .no, .no, .rd 66]]
 intro ps_
 show GoodC _ _ _ ps_ (f90i.hdG (fun _ _ _ _ _ => none) ps_)
 unfold f90i.hdG
 exact rdC
theorem f90.fnok : FnOK Try.prog 90 := fn_ok Try.func90 (by kernel_rfl) rfl
def f90i.l3.step {R : Type} (g90 : ByteArray → Bool → Int → Int → (List S66) → Option (ByteArray × Bool × Int × Int × (List S66))) (k : Nat) (rec_ : Int → ByteArray → Bool → Int → Int → (List S66) → ByteArray → Bool → Int → Int → ByteArray → Bool → Int → Int → (List S66) → Option R) (ret : (ByteArray × Bool × Int × Int × ByteArray × Bool × Int × Int × (List S66)) → Option R) (a6 : Int) (s7 : ByteArray) (b8 : Bool) (a9 a10 : Int) (xs11 : List S66) (s12 : ByteArray) (b13 : Bool) (a14 a15 : Int) (s16 : ByteArray) (b17 : Bool) (a18 a19 : Int) (xs20 : List S66) : Option R :=
 if (decide (a6 < ((List.length xs11) : Int))) = true then
 if 0 ≤ a6 then
 if a6 < ((List.length xs11 : Nat) : Int) then
 (g90 (List.getD xs11 (Int.toNat a6) (⟨ByteArray.empty, false, 0, 0, []⟩ : S66)).f0 (List.getD xs11 (Int.toNat a6) (⟨ByteArray.empty, false, 0, 0, []⟩ : S66)).f1 (List.getD xs11 (Int.toNat a6) (⟨ByteArray.empty, false, 0, 0, []⟩ : S66)).f2 (List.getD xs11 (Int.toNat a6) (⟨ByteArray.empty, false, 0, 0, []⟩ : S66)).f3 (List.getD xs11 (Int.toNat a6) (⟨ByteArray.empty, false, 0, 0, []⟩ : S66)).f4).bind fun t21 => if (List.length xs20 + List.length ([(⟨t21.1, t21.2.1, t21.2.2.1, t21.2.2.2.1, t21.2.2.2.2⟩ : S66)] : List S66)) * 64 ≤ maxN then
 rec_ (IntKind.i64.wrap (a6 + 1)) s7 b8 a9 a10 xs11 s12 b13 a14 a15 s16 b17 a18 a19 (xs20 ++ ([(⟨t21.1, t21.2.1, t21.2.2.1, t21.2.2.2.1, t21.2.2.2.2⟩ : S66)] : List S66))
 else none
 else none
 else none
 else
 ret (s12, b13, a14, a15, s16, b17, a18, a19, xs20)
def f90i.l3 (g90 : ByteArray → Bool → Int → Int → (List S66) → Option (ByteArray × Bool × Int × Int × (List S66))) (k : Nat) : Nat → Int → ByteArray → Bool → Int → Int → (List S66) → ByteArray → Bool → Int → Int → ByteArray → Bool → Int → Int → (List S66) → Option (ByteArray × Bool × Int × Int × ByteArray × Bool × Int × Int × (List S66))
 | 0, _, _, _, _, _, _, _, _, _, _, _, _, _, _, _ => none
 | j + 1, a6, s7, b8, a9, a10, xs11, s12, b13, a14, a15, s16, b17, a18, a19, xs20 => f90i.l3.step g90 k (fun a6 s7 b8 a9 a10 xs11 s12 b13 a14 a15 s16 b17 a18 a19 xs20 => f90i.l3 g90 k j a6 s7 b8 a9 a10 xs11 s12 b13 a14 a15 s16 b17 a18 a19 xs20) some a6 s7 b8 a9 a10 xs11 s12 b13 a14 a15 s16 b17 a18 a19 xs20
def f90i.l3.w {R : Type} : (ByteArray × Bool × Int × Int × ByteArray × Bool × Int × Int × (List S66)) → (Exit → St env → Option R) → Option R := fun t23 K => K (.exit 0) ⟨fullT [2, 3] 0 33 [.v (.c (.bp 17 0)), .v (.c (.bp 177 0))], [(17, .box [.s (.string t23.1), .s (.bool t23.2.1), .s (.int .i64 t23.2.2.1), .s (.int .i64 t23.2.2.2.1), .s (.slice none 0 0)]), (177, .box [.s (.string t23.2.2.2.2.1), .s (.bool t23.2.2.2.2.2.1), .s (.int .i64 t23.2.2.2.2.2.2.1), .s (.int .i64 t23.2.2.2.2.2.2.2.1), .row 225]), (225, .row true 66 t23.2.2.2.2.2.2.2.2)], 561⟩
def f90i.l3.st (a6 : Int) (s7 : ByteArray) (b8 : Bool) (a9 a10 : Int) (xs11 : List S66) (s12 : ByteArray) (b13 : Bool) (a14 a15 : Int) (s16 : ByteArray) (b17 : Bool) (a18 a19 : Int) (xs20 : List S66) : St env := ⟨fullT [1, 2, 3, 4] 0 33 [.v (.c (.bp 1 0)), .v (.c (.bp 17 0)), .v (.c (.bp 177 0)), .v (.c (.s (.int .i64 a6)))], [(1, .box [.s (.string s7), .s (.bool b8), .s (.int .i64 a9), .s (.int .i64 a10), .imm 66 xs11]), (17, .box [.s (.string s12), .s (.bool b13), .s (.int .i64 a14), .s (.int .i64 a15), .s (.slice none 0 0)]), (177, .box [.s (.string s16), .s (.bool b17), .s (.int .i64 a18), .s (.int .i64 a19), .row 225]), (225, .row true 66 xs20)], 241⟩
def f90i.l3.hd (g90 : ByteArray → Bool → Int → Int → (List S66) → Option (ByteArray × Bool × Int × Int × (List S66))) (k : Nat) (ts_ : List (AV env)) (mm_ : Mem env) (n_ : Nat) : LCl env :=
 gTs Ln [1, 2, 3, 4] 33 ts_ fun l_ => tP Ln 1 l_ fun l_ => tP Ln 17 l_ fun l_ => tP Ln 177 l_ fun l_ => tI Ln l_ fun a6 l_ => gE Ln l_ <| mBox Ln 1 mm_ fun c_ m_ => cS Ln c_ fun s7 c_ => cB Ln c_ fun b8 c_ => cI Ln c_ fun a9 c_ => cI Ln c_ fun a10 c_ => cM Ln 66 c_ fun xs11 c_ => gE Ln c_ <| mBox Ln 17 m_ fun c_ m_ => cS Ln c_ fun s12 c_ => cB Ln c_ fun b13 c_ => cI Ln c_ fun a14 c_ => cI Ln c_ fun a15 c_ => cN Ln c_ fun c_ => gE Ln c_ <| mBox Ln 177 m_ fun c_ m_ => cS Ln c_ fun s16 c_ => cB Ln c_ fun b17 c_ => cI Ln c_ fun a18 c_ => cI Ln c_ fun a19 c_ => cR Ln 225 c_ fun c_ => gE Ln c_ <| mRow Ln 225 true 66 m_ fun xs20 m_ => gE Ln m_ <| gN Ln 241 n_ { α := ByteArray × Bool × Int × Int × ByteArray × Bool × Int × Int × (List S66), o := f90i.l3 g90 k k a6 s7 b8 a9 a10 xs11 s12 b13 a14 a15 s16 b17 a18 a19 xs20, w := f90i.l3.w }
def f90i.step {R : Type} (g90 : ByteArray → Bool → Int → Int → (List S66) → Option (ByteArray × Bool × Int × Int × (List S66))) (k : Nat) (ret : (ByteArray × Bool × Int × Int × (List S66)) → Option R) (s1 : ByteArray) (b2 : Bool) (a3 a4 : Int) (xs5 : List S66) : Option R :=
 (f90i.l3 g90 k k 0 s1 b2 a3 a4 xs5 ByteArray.empty false 0 0 s1 b2 a3 a4 ([] : List S66)).bind fun t22 => ret (t22.2.2.2.2.1, t22.2.2.2.2.2.1, t22.2.2.2.2.2.2.1, t22.2.2.2.2.2.2.2.1, t22.2.2.2.2.2.2.2.2)
def f90i (g90 : ByteArray → Bool → Int → Int → (List S66) → Option (ByteArray × Bool × Int × Int × (List S66))) (k : Nat) (s1 : ByteArray) (b2 : Bool) (a3 a4 : Int) (xs5 : List S66) : Option (ByteArray × Bool × Int × Int × (List S66)) := f90i.step g90 k some s1 b2 a3 a4 xs5
def f90i.hd (g90 : ByteArray → Bool → Int → Int → (List S66) → Option (ByteArray × Bool × Int × Int × (List S66))) (k : Nat) (ps_ : List (P2 env)) : Cl env := f90i.hdG (f90i g90 k) ps_
def f90i.e (g90 : ByteArray → Bool → Int → Int → (List S66) → Option (ByteArray × Bool × Int × Int × (List S66))) (k : Nat) : Entry env := f90i.eG (f90i g90 k)
def f90i.X (g90 : ByteArray → Bool → Int → Int → (List S66) → Option (ByteArray × Bool × Int × Int × (List S66))) (k : Nat) : Ctx env := { X0 with C := lookE [(90, f90i.eG g90)], L := lookE [(3, fun S => f90i.l3.hd g90 k S.ts S.m S.n)], keep := lookD [(3, [1, 2, 3, 4])], keepX := lookD [(3, [2, 3])], span := lookN [(3, 320)], eff := fun n => memN n [5], prep := lookP [(3, [.nilB 177 4 66])] }
theorem f90i.l3.nat {R : Type} (g90 : ByteArray → Bool → Int → Int → (List S66) → Option (ByteArray × Bool × Int × Int × (List S66))) (k : Nat) (rec_) (g : _ → Option R) (a6 s7 b8 a9 a10 xs11 s12 b13 a14 a15 s16 b17 a18 a19 xs20) : (f90i.l3.step g90 k rec_ some a6 s7 b8 a9 a10 xs11 s12 b13 a14 a15 s16 b17 a18 a19 xs20).bind g = f90i.l3.step g90 k (fun a6 s7 b8 a9 a10 xs11 s12 b13 a14 a15 s16 b17 a18 a19 xs20 => (rec_ a6 s7 b8 a9 a10 xs11 s12 b13 a14 a15 s16 b17 a18 a19 xs20).bind g) g a6 s7 b8 a9 a10 xs11 s12 b13 a14 a15 s16 b17 a18 a19 xs20 := by
 simp only [f90i.l3.step, bind_ite, bind_sum, oA, oS, oN]
theorem f90i.l3.good (g90 : ByteArray → Bool → Int → Int → (List S66) → Option (ByteArray × Bool × Int × Int × (List S66))) (k : Nat) (a6 s7 b8 a9 a10 xs11 s12 b13 a14 a15 s16 b17 a18 a19 xs20) : GoodL (f90i.X g90 k) (nthC 0 (loopsOf (bodyOf Try.f90))) (f90i.l3.st a6 s7 b8 a9 a10 xs11 s12 b13 a14 a15 s16 b17 a18 a19 xs20) { α := _, o := f90i.l3 g90 k k a6 s7 b8 a9 a10 xs11 s12 b13 a14 a15 s16 b17 a18 a19 xs20, w := f90i.l3.w } :=
 loop_good (ι := Int × ByteArray × Bool × Int × Int × (List S66) × ByteArray × Bool × Int × Int × ByteArray × Bool × Int × Int × (List S66)) (α := (ByteArray × Bool × Int × Int × ByteArray × Bool × Int × Int × (List S66))) (fun i => let i_a := i.2.2.2.2.2.2.2.2; f90i.l3.st i.1 i.2.1 i.2.2.1 i.2.2.2.1 i.2.2.2.2.1 i.2.2.2.2.2.1 i.2.2.2.2.2.2.1 i.2.2.2.2.2.2.2.1 i_a.1 i_a.2.1 i_a.2.2.1 i_a.2.2.2.1 i_a.2.2.2.2.1 i_a.2.2.2.2.2.1 i_a.2.2.2.2.2.2) (fun j i => let i_a := i.2.2.2.2.2.2.2.2; f90i.l3 g90 k j i.1 i.2.1 i.2.2.1 i.2.2.2.1 i.2.2.2.2.1 i.2.2.2.2.2.1 i.2.2.2.2.2.2.1 i.2.2.2.2.2.2.2.1 i_a.1 i_a.2.1 i_a.2.2.1 i_a.2.2.2.1 i_a.2.2.2.2.1 i_a.2.2.2.2.2.1 i_a.2.2.2.2.2.2) f90i.l3.w (fun rec_ ret i => let i_a := i.2.2.2.2.2.2.2.2; f90i.l3.step g90 k (fun a6 s7 b8 a9 a10 xs11 s12 b13 a14 a15 s16 b17 a18 a19 xs20 => rec_ (a6, s7, b8, a9, a10, xs11, s12, b13, a14, a15, s16, b17, a18, a19, xs20)) ret i.1 i.2.1 i.2.2.1 i.2.2.2.1 i.2.2.2.2.1 i.2.2.2.2.2.1 i.2.2.2.2.2.2.1 i.2.2.2.2.2.2.2.1 i_a.1 i_a.2.1 i_a.2.2.1 i_a.2.2.2.1 i_a.2.2.2.2.1 i_a.2.2.2.2.2.1 i_a.2.2.2.2.2.2)
  (fun _ => rfl) (fun _ _ => rfl) (fun rec_ g i => let i_a := i.2.2.2.2.2.2.2.2; f90i.l3.nat g90 k _ g i.1 i.2.1 i.2.2.1 i.2.2.2.1 i.2.2.2.2.1 i.2.2.2.2.2.1 i.2.2.2.2.2.2.1 i.2.2.2.2.2.2.2.1 i_a.1 i_a.2.1 i_a.2.2.1 i_a.2.2.2.1 i_a.2.2.2.2.1 i_a.2.2.2.2.2.1 i_a.2.2.2.2.2.2) (fun {R} i0 i rec_ K => by kernel_rfl) k (a6, s7, b8, a9, a10, xs11, s12, b13, a14, a15, s16, b17, a18, a19, xs20)
theorem f90i.l3.all (g90 : ByteArray → Bool → Int → Int → (List S66) → Option (ByteArray × Bool × Int × Int × (List S66))) (k : Nat) (S : St env) : GoodL (f90i.X g90 k) (nthC 0 (loopsOf (bodyOf Try.f90))) S (f90i.l3.hd g90 k S.ts S.m S.n) := by
 obtain ⟨ts_, m_, n_⟩ := S
 show GoodL _ _ _ (f90i.l3.hd g90 k ts_ m_ n_)
 unfold f90i.l3.hd
 have hg_ := f90i.l3.good g90 k
 exact rdL
theorem f90i.nat {R : Type} (g90 : ByteArray → Bool → Int → Int → (List S66) → Option (ByteArray × Bool × Int × Int × (List S66))) (k : Nat) (g : _ → Option R) (s1 b2 a3 a4 xs5) : f90i.step g90 k g s1 b2 a3 a4 xs5 = (f90i g90 k s1 b2 a3 a4 xs5).bind g := by
 simp only [f90i, f90i.step, bind_ite, bind_sum, oA, oS, oN]
theorem f90i.ev (g90 : ByteArray → Bool → Int → Int → (List S66) → Option (ByteArray × Bool × Int × Int × (List S66))) (k : Nat) (s1 : ByteArray) (b2 : Bool) (a3 a4 : Int) (xs5 : List S66) : evF (f90i.X g90 k) (bodyOf Try.f90) Try.f90.ntmps Try.f90.results.toList [.g [.s (.string s1), .s (.bool b2), .s (.int .i64 a3), .s (.int .i64 a4), .sl 66 xs5]] = f90i.step g90 k (fun x => f90i.w x some) s1 b2 a3 a4 xs5 := by kernel_rfl
theorem f90i.hok (g90 : ByteArray → Bool → Int → Int → (List S66) → Option (ByteArray × Bool × Int × Int × (List S66))) (k : Nat) : HOK (f90i.X g90 k) (bodyOf Try.f90) where
 l := allP_mem (by exact ⟨ls_of (h0 := fun S => f90i.l3.hd g90 k S.ts S.m S.n) (by kernel_rfl) (f90i.l3.all g90 k), trivial⟩)
 j := allP_mem (by exact trivial)
 q := allP_mem (by exact trivial)
theorem f90i.sound0 (g90 : ByteArray → Bool → Int → Int → (List S66) → Option (ByteArray × Bool × Int × Int × (List S66))) (hg_ : SoundC env Try.prog 90 (f90i.eG g90).F) (k : Nat) : SoundC env Try.prog 90 (f90i.hd g90 k) := by
 intro ps_
 show GoodC _ _ _ ps_ (f90i.hd g90 k ps_)
 unfold f90i.hd f90i.hdG
 have hF_ := fun_sound envOK (cs_sound _ (by exact ⟨⟨hg_, f90.fnok⟩, trivial⟩)) (f90i.hok g90 k) Try.func90 rfl
 have hev_ := f90i.ev g90 k
 have hnat_ := fun g_ => f90i.nat g90 k (R := Res env) g_
 exact rdC
theorem f90i.sound (g90 : ByteArray → Bool → Int → Int → (List S66) → Option (ByteArray × Bool × Int × Int × (List S66))) (hg_ : SoundC env Try.prog 90 (f90i.eG g90).F) (k : Nat) : SoundC env Try.prog 90 (f90i.e g90 k).F := soundC_coer (f90i.sound0 g90 hg_ k) [[.no, .no, .no, .no, .rd 66]]
def f90i.r (k : Nat) : Nat → ByteArray → Bool → Int → Int → (List S66) → Option (ByteArray × Bool × Int × Int × (List S66))
 | 0 => fun _ _ _ _ _ => none
 | j + 1 => fun s1 b2 a3 a4 xs5 => f90i (f90i.r k j) k s1 b2 a3 a4 xs5
theorem f90i.all_ (k : Nat) : ∀ j, SoundC env Try.prog 90 (f90i.eG (f90i.r k j)).F
 | 0 => f90i.none_
 | j + 1 => f90i.sound (f90i.r k j) (f90i.all_ k j) k
def f90 (k : Nat) (s1 : ByteArray) (b2 : Bool) (a3 a4 : Int) (xs5 : List S66) : Option (ByteArray × Bool × Int × Int × (List S66)) := f90i.r k k s1 b2 a3 a4 xs5
def f90.e (k : Nat) : Entry env := f90i.eG (f90 k)
theorem f90.sound (k : Nat) : SoundC env Try.prog 90 (f90.e k).F := f90i.all_ k k
def f100.l3.step {R : Type} (k : Nat) (rec_ : Int → (List Int) → Int → Int → ByteArray → Bool → Int → Int → ByteArray → Bool → Int → Int → (List ByteArray) → (List Int) → ByteArray → Bool → Int → Int → (List S66) → ByteArray → Bool → Int → Int → (List S66) → Nat → Nat → Option R) (ret : ((List Int) × Int × Int × ByteArray × Bool × Int × Int × ByteArray × Bool × Int × Int × (List ByteArray) × (List Int) × ByteArray × Bool × Int × Int × (List S66) × ByteArray × Bool × Int × Int × (List S66) × Nat × Nat) → Option R) (a6 : Int) (xs7 : List Int) (a8 a9 : Int) (s10 : ByteArray) (b11 : Bool) (a12 a13 : Int) (s14 : ByteArray) (b15 : Bool) (a16 a17 : Int) (xs18 : List ByteArray) (xs19 : List Int) (s20 : ByteArray) (b21 : Bool) (a22 a23 : Int) (xs24 : List S66) (s25 : ByteArray) (b26 : Bool) (a27 a28 : Int) (xs29 : List S66) (n30 n31 : Nat) : Option R :=
 if (decide (a6 > 0)) = true then
 (f167 k xs7 a8 a9).bind fun t32 => (f123 k t32.1).bind fun t33 => (f139 k t32.2.1 t32.2.2.1 t32.2.2.2 6).bind fun t34 => if 0 ≤ t34.1 then
 if t34.1 < ((List.length ([0, 8, 16, 24, 25, 32] : List Int) : Nat) : Int) then
 if 0 ≤ (List.getD ([0, 8, 16, 24, 25, 32] : List Int) (Int.toNat t34.1) 0) then
 if (List.getD ([0, 8, 16, 24, 25, 32] : List Int) (Int.toNat t34.1) 0) ≤ ((ByteArray.size t33 : Nat) : Int) then
 (f139 k t34.2.1 t34.2.2.1 t34.2.2.2 4).bind fun t35 => (f139 k t35.2.1 t35.2.2.1 t35.2.2.2 4).bind fun t36 => if 0 ≤ t36.1 then
 if t36.1 < ((List.length ([1, 1, 3, 16] : List Int) : Nat) : Int) then
 (f88 k s20 b21 a22 a23 xs24 (ByteArray.extract t33 0 (Int.toNat (List.getD ([0, 8, 16, 24, 25, 32] : List Int) (Int.toNat t34.1) 0))) t35.1 (List.getD ([1, 1, 3, 16] : List Int) (Int.toNat t36.1) 0)).bind (Sum.elim (fun t37 => (f168 k t36.2.1 t36.2.2.1 t36.2.2.2).bind fun t38 => (f123 k t38.1).bind fun t39 => (f139 k t38.2.1 t38.2.2.1 t38.2.2.2 5).bind fun t40 => if 0 ≤ t40.1 then
 if t40.1 < ((List.length ([0, 8, 16, 64, 128] : List Int) : Nat) : Int) then
 if 0 ≤ (List.getD ([0, 8, 16, 64, 128] : List Int) (Int.toNat t40.1) 0) then
 if (List.getD ([0, 8, 16, 64, 128] : List Int) (Int.toNat t40.1) 0) ≤ ((ByteArray.size t39 : Nat) : Int) then
 (f139 k t40.2.1 t40.2.2.1 t40.2.2.2 4).bind fun t41 => (f88 k s25 b26 a27 a28 xs29 (ByteArray.extract t39 0 (Int.toNat (List.getD ([0, 8, 16, 64, 128] : List Int) (Int.toNat t40.1) 0))) t41.1 1).bind (Sum.elim (fun t42 => rec_ (IntKind.i64.wrap (a6 - 1)) t41.2.1 t41.2.2.1 t41.2.2.2 s10 b11 a12 a13 s14 b15 a16 a17 xs18 xs19 t37.1 t37.2.1 t37.2.2.1 t37.2.2.2.1 t37.2.2.2.2 t42.1 t42.2.1 t42.2.2.1 t42.2.2.2.1 t42.2.2.2.2 n30 n31) (fun t43 => rec_ (IntKind.i64.wrap (a6 - 1)) t41.2.1 t41.2.2.1 t41.2.2.2 s10 b11 a12 a13 s14 b15 a16 a17 xs18 xs19 t37.1 t37.2.1 t37.2.2.1 t37.2.2.2.1 t37.2.2.2.2 t43.1 t43.2.1 t43.2.2.1 t43.2.2.2.1 t43.2.2.2.2 n30 n31))
 else none
 else none
 else none
 else none) (fun t44 => (f168 k t36.2.1 t36.2.2.1 t36.2.2.2).bind fun t45 => (f123 k t45.1).bind fun t46 => (f139 k t45.2.1 t45.2.2.1 t45.2.2.2 5).bind fun t47 => if 0 ≤ t47.1 then
 if t47.1 < ((List.length ([0, 8, 16, 64, 128] : List Int) : Nat) : Int) then
 if 0 ≤ (List.getD ([0, 8, 16, 64, 128] : List Int) (Int.toNat t47.1) 0) then
 if (List.getD ([0, 8, 16, 64, 128] : List Int) (Int.toNat t47.1) 0) ≤ ((ByteArray.size t46 : Nat) : Int) then
 (f139 k t47.2.1 t47.2.2.1 t47.2.2.2 4).bind fun t48 => (f88 k s25 b26 a27 a28 xs29 (ByteArray.extract t46 0 (Int.toNat (List.getD ([0, 8, 16, 64, 128] : List Int) (Int.toNat t47.1) 0))) t48.1 1).bind (Sum.elim (fun t49 => rec_ (IntKind.i64.wrap (a6 - 1)) t48.2.1 t48.2.2.1 t48.2.2.2 s10 b11 a12 a13 s14 b15 a16 a17 xs18 xs19 t44.1 t44.2.1 t44.2.2.1 t44.2.2.2.1 t44.2.2.2.2 t49.1 t49.2.1 t49.2.2.1 t49.2.2.2.1 t49.2.2.2.2 n30 n31) (fun t50 => rec_ (IntKind.i64.wrap (a6 - 1)) t48.2.1 t48.2.2.1 t48.2.2.2 s10 b11 a12 a13 s14 b15 a16 a17 xs18 xs19 t44.1 t44.2.1 t44.2.2.1 t44.2.2.2.1 t44.2.2.2.2 t50.1 t50.2.1 t50.2.2.1 t50.2.2.2.1 t50.2.2.2.2 n30 n31))
 else none
 else none
 else none
 else none))
 else none
 else none
 else none
 else none
 else none
 else none
 else
 ret (xs7, a8, a9, s10, b11, a12, a13, s14, b15, a16, a17, xs18, xs19, s20, b21, a22, a23, xs24, s25, b26, a27, a28, xs29, n30, n31)
def f100.l3 (k : Nat) : Nat → Int → (List Int) → Int → Int → ByteArray → Bool → Int → Int → ByteArray → Bool → Int → Int → (List ByteArray) → (List Int) → ByteArray → Bool → Int → Int → (List S66) → ByteArray → Bool → Int → Int → (List S66) → Nat → Nat → Option ((List Int) × Int × Int × ByteArray × Bool × Int × Int × ByteArray × Bool × Int × Int × (List ByteArray) × (List Int) × ByteArray × Bool × Int × Int × (List S66) × ByteArray × Bool × Int × Int × (List S66) × Nat × Nat)
 | 0, _, _, _, _, _, _, _, _, _, _, _, _, _, _, _, _, _, _, _, _, _, _, _, _, _, _ => none
 | j + 1, a6, xs7, a8, a9, s10, b11, a12, a13, s14, b15, a16, a17, xs18, xs19, s20, b21, a22, a23, xs24, s25, b26, a27, a28, xs29, n30, n31 => f100.l3.step k (fun a6 xs7 a8 a9 s10 b11 a12 a13 s14 b15 a16 a17 xs18 xs19 s20 b21 a22 a23 xs24 s25 b26 a27 a28 xs29 n30 n31 => f100.l3 k j a6 xs7 a8 a9 s10 b11 a12 a13 s14 b15 a16 a17 xs18 xs19 s20 b21 a22 a23 xs24 s25 b26 a27 a28 xs29 n30 n31) some a6 xs7 a8 a9 s10 b11 a12 a13 s14 b15 a16 a17 xs18 xs19 s20 b21 a22 a23 xs24 s25 b26 a27 a28 xs29 n30 n31
def f100.l3.w {R : Type} : ((List Int) × Int × Int × ByteArray × Bool × Int × Int × ByteArray × Bool × Int × Int × (List ByteArray) × (List Int) × ByteArray × Bool × Int × Int × (List S66) × ByteArray × Bool × Int × Int × (List S66) × Nat × Nat) → (Exit → St env → Option R) → Option R := fun t54 K => let t54_a := t54.2.2.2.2.2.2.2.2; let t54_b := t54_a.2.2.2.2.2.2.2.2; let t54_c := t54_b.2.2.2.2.2.2.2.2; K (.exit 0) ⟨fullT [0, 2, 3] 0 72 [.v (.c (.bp 0 0)), .v (.c (.bp 1 0)), .v (.c (.bp 81 0))], [(0, .box [.imm 5 t54.1, .s (.int .i64 t54.2.1), .s (.int .i64 t54.2.2.1)]), (1, .box [.s (.string t54.2.2.2.1), .s (.bool t54.2.2.2.2.1), .s (.int .i64 t54.2.2.2.2.2.1), .s (.int .i64 t54.2.2.2.2.2.2.1), .s (.slice none 0 0), .s (.string t54.2.2.2.2.2.2.2.1), .s (.bool t54_a.1), .s (.int .i64 t54_a.2.1), .s (.int .i64 t54_a.2.2.1), .s (.slice none 0 0), .s (.slice none 0 0), .s (.slice none 0 0)]), (33, .row true 9 t54_a.2.2.2.1), (49, .row true 3 t54_a.2.2.2.2.1), (81, .box [.s (.string t54_a.2.2.2.2.2.1), .s (.bool t54_a.2.2.2.2.2.2.1), .s (.int .i64 t54_a.2.2.2.2.2.2.2.1), .s (.int .i64 t54_b.1), .imm 66 t54_b.2.1, .s (.string t54_b.2.2.1), .s (.bool t54_b.2.2.2.1), .s (.int .i64 t54_b.2.2.2.2.1), .s (.int .i64 t54_b.2.2.2.2.2.1), .imm 66 t54_b.2.2.2.2.2.2.1, .row 33, .win 49 t54_b.2.2.2.2.2.2.2.1 t54_c])], 929⟩
def f100.l3.st (a6 : Int) (xs7 : List Int) (a8 a9 : Int) (s10 : ByteArray) (b11 : Bool) (a12 a13 : Int) (s14 : ByteArray) (b15 : Bool) (a16 a17 : Int) (xs18 : List ByteArray) (xs19 : List Int) (s20 : ByteArray) (b21 : Bool) (a22 a23 : Int) (xs24 : List S66) (s25 : ByteArray) (b26 : Bool) (a27 a28 : Int) (xs29 : List S66) (n30 n31 : Nat) : St env := ⟨fullT [0, 2, 3, 4] 0 72 [.v (.c (.bp 0 0)), .v (.c (.bp 1 0)), .v (.c (.bp 81 0)), .v (.c (.s (.int .i64 a6)))], [(0, .box [.imm 5 xs7, .s (.int .i64 a8), .s (.int .i64 a9)]), (1, .box [.s (.string s10), .s (.bool b11), .s (.int .i64 a12), .s (.int .i64 a13), .s (.slice none 0 0), .s (.string s14), .s (.bool b15), .s (.int .i64 a16), .s (.int .i64 a17), .s (.slice none 0 0), .s (.slice none 0 0), .s (.slice none 0 0)]), (33, .row true 9 xs18), (49, .row true 3 xs19), (81, .box [.s (.string s20), .s (.bool b21), .s (.int .i64 a22), .s (.int .i64 a23), .imm 66 xs24, .s (.string s25), .s (.bool b26), .s (.int .i64 a27), .s (.int .i64 a28), .imm 66 xs29, .row 33, .win 49 n30 n31])], 161⟩
def f100.l3.hd (k : Nat) (ts_ : List (AV env)) (mm_ : Mem env) (n_ : Nat) : LCl env :=
 gTs Ln [0, 2, 3, 4] 72 ts_ fun l_ => tP Ln 0 l_ fun l_ => tP Ln 1 l_ fun l_ => tP Ln 81 l_ fun l_ => tI Ln l_ fun a6 l_ => gE Ln l_ <| mBox Ln 0 mm_ fun c_ m_ => cM Ln 5 c_ fun xs7 c_ => cI Ln c_ fun a8 c_ => cI Ln c_ fun a9 c_ => gE Ln c_ <| mBox Ln 1 m_ fun c_ m_ => cS Ln c_ fun s10 c_ => cB Ln c_ fun b11 c_ => cI Ln c_ fun a12 c_ => cI Ln c_ fun a13 c_ => cN Ln c_ fun c_ => cS Ln c_ fun s14 c_ => cB Ln c_ fun b15 c_ => cI Ln c_ fun a16 c_ => cI Ln c_ fun a17 c_ => cN Ln c_ fun c_ => cN Ln c_ fun c_ => cN Ln c_ fun c_ => gE Ln c_ <| mRow Ln 33 true 9 m_ fun xs18 m_ => mRow Ln 49 true 3 m_ fun xs19 m_ => mBox Ln 81 m_ fun c_ m_ => cS Ln c_ fun s20 c_ => cB Ln c_ fun b21 c_ => cI Ln c_ fun a22 c_ => cI Ln c_ fun a23 c_ => cM Ln 66 c_ fun xs24 c_ => cS Ln c_ fun s25 c_ => cB Ln c_ fun b26 c_ => cI Ln c_ fun a27 c_ => cI Ln c_ fun a28 c_ => cM Ln 66 c_ fun xs29 c_ => cR Ln 33 c_ fun c_ => gC Ln c_ fun a_ c_ => rWin Ln 49 a_ fun n30 n31 => gE Ln c_ <| gE Ln m_ <| gN Ln 161 n_ { α := (List Int) × Int × Int × ByteArray × Bool × Int × Int × ByteArray × Bool × Int × Int × (List ByteArray) × (List Int) × ByteArray × Bool × Int × Int × (List S66) × ByteArray × Bool × Int × Int × (List S66) × Nat × Nat, o := f100.l3 k k a6 xs7 a8 a9 s10 b11 a12 a13 s14 b15 a16 a17 xs18 xs19 s20 b21 a22 a23 xs24 s25 b26 a27 a28 xs29 n30 n31, w := f100.l3.w }
def f100.step {R : Type} (k : Nat) (ret : (ByteArray × Bool × Int × Int × (List S66) × ByteArray × Bool × Int × Int × (List S66) × (List ByteArray) × (List Int) × (List Int) × Int × Int) → Option R) (xs1 : List Int) (a2 a3 : Int) : Option R :=
 if ByteArray.size (⟨#[32, 1]⟩ : ByteArray) + ByteArray.size (strOf (List.replicate 13 (0 : Int))) ≤ maxN then
 if ByteArray.size ((⟨#[32, 1]⟩ : ByteArray) ++ (strOf (List.replicate 13 (0 : Int)))) + ByteArray.size (⟨#[1]⟩ : ByteArray) ≤ maxN then
 (f139 k xs1 a2 a3 3).bind fun t4 => if 0 ≤ (IntKind.i64.wrap (1 + t4.1)) then
 if (IntKind.i64.wrap (1 + t4.1)) ≤ ((List.length ([1500, 576, 1280] : List Int) : Nat) : Int) then
 (f139 k t4.2.1 t4.2.2.1 t4.2.2.2 (6 : Int)).bind fun t5 => (f100.l3 k k t5.1 t5.2.1 t5.2.2.1 t5.2.2.2 ByteArray.empty false (0 : Int) (0 : Int) ByteArray.empty false (0 : Int) (0 : Int) ([(⟨#[10, 0, 0, 1]⟩ : ByteArray), (((⟨#[32, 1]⟩ : ByteArray) ++ (strOf (List.replicate 13 (0 : Int)))) ++ (⟨#[1]⟩ : ByteArray))] : List ByteArray) ([(1500 : Int), (576 : Int), (1280 : Int)] : List Int) ByteArray.empty false (0 : Int) (0 : Int) ([] : List S66) ByteArray.empty false (0 : Int) (0 : Int) ([] : List S66) (0 : Nat) ((Int.toNat (IntKind.i64.wrap ((1 : Int) + t4.1))) - 0)).bind fun t51 => (let t51_a := t51.2.2.2.2.2.2.2.2; let t51_b := t51_a.2.2.2.2.2.2.2.2; let t51_c := t51_b.2.2.2.2.2.2.2.2; (f90 k t51_a.2.2.2.2.2.1 t51_a.2.2.2.2.2.2.1 t51_a.2.2.2.2.2.2.2.1 t51_b.1 t51_b.2.1).bind fun t52 => (f90 k t51_b.2.2.1 t51_b.2.2.2.1 t51_b.2.2.2.2.1 t51_b.2.2.2.2.2.1 t51_b.2.2.2.2.2.2.1).bind fun t53 => if t51_b.2.2.2.2.2.2.2.1 = 0 then
 ret (t52.1, t52.2.1, t52.2.2.1, t52.2.2.2.1, t52.2.2.2.2, t53.1, t53.2.1, t53.2.2.1, t53.2.2.2.1, t53.2.2.2.2, t51_a.2.2.2.1, (List.take t51_c t51_a.2.2.2.2.1), t51.1, t51.2.1, t51.2.2.1)
 else none)
 else none
 else none
 else none
 else none
def f100 (k : Nat) (xs1 : List Int) (a2 a3 : Int) := f100.step k some xs1 a2 a3
def f100.w {R : Type} : (ByteArray × Bool × Int × Int × (List S66) × ByteArray × Bool × Int × Int × (List S66) × (List ByteArray) × (List Int) × (List Int) × Int × Int) → (Res env → Option R) → Option R := fun t55 K => let t55_a := t55.2.2.2.2.2.2.2.2; K ⟨.v (.g [.s (.string t55.1), .s (.bool t55.2.1), .s (.int .i64 t55.2.2.1), .s (.int .i64 t55.2.2.2.1), .own true 66 t55.2.2.2.2.1, .s (.string t55.2.2.2.2.2.1), .s (.bool t55.2.2.2.2.2.2.1), .s (.int .i64 t55.2.2.2.2.2.2.2.1), .s (.int .i64 t55_a.1), .own true 66 t55_a.2.1, .own true 9 t55_a.2.2.1, .own true 3 t55_a.2.2.2.1]), [[.sl 5 t55_a.2.2.2.2.1, .s (.int .i64 t55_a.2.2.2.2.2.1), .s (.int .i64 t55_a.2.2.2.2.2.2)]]⟩
theorem f100.wn (x : (ByteArray × Bool × Int × Int × (List S66) × ByteArray × Bool × Int × Int × (List S66) × (List ByteArray) × (List Int) × (List Int) × Int × Int)) : ∃ res, ∀ {R : Type} (K : Res env → Option R), f100.w x K = K res := by
 exact ⟨_, fun _ => rfl⟩
def f100.hd (k : Nat) (ps_ : List (P2 env)) : Cl env :=
 gC Cl.no ps_ fun p_ ps_ => qP Cl.no p_ fun cs_ => dM Cl.no 5 cs_ fun xs1 cs_ => dI Cl.no cs_ fun a2 cs_ => dI Cl.no cs_ fun a3 cs_ => gE Cl.no cs_ <| gE Cl.no ps_ <| { α := ByteArray × Bool × Int × Int × (List S66) × ByteArray × Bool × Int × Int × (List S66) × (List ByteArray) × (List Int) × (List Int) × Int × Int, o := f100 k xs1 a2 a3, w := f100.w, nat := fun x _ => f100.wn x }
def f100.e (k : Nat) : Entry env := ⟨fun ps => f100.hd k (coer [[.rd 5, .no, .no]] ps), [], []⟩
def f100.X (k : Nat) : Ctx env := { X0 with C := lookE [(88, f88.e k), (90, f90.e k), (123, f123.e k), (139, f139.e k), (167, f167.e k), (168, f168.e k)], L := lookE [(3, fun S => f100.l3.hd k S.ts S.m S.n)], keep := lookD [(3, [0, 2, 3, 4])], keepX := lookD [(3, [0, 2, 3])], span := lookN [(3, 768)], eff := fun n => memN n [1, 6, 8], prep := lookP [(3, [.frzB 81 4 66, .frzB 81 9 66])] }
theorem f100.l3.nat {R : Type} (k : Nat) (rec_) (g : _ → Option R) (a6 xs7 a8 a9 s10 b11 a12 a13 s14 b15 a16 a17 xs18 xs19 s20 b21 a22 a23 xs24 s25 b26 a27 a28 xs29 n30 n31) : (f100.l3.step k rec_ some a6 xs7 a8 a9 s10 b11 a12 a13 s14 b15 a16 a17 xs18 xs19 s20 b21 a22 a23 xs24 s25 b26 a27 a28 xs29 n30 n31).bind g = f100.l3.step k (fun a6 xs7 a8 a9 s10 b11 a12 a13 s14 b15 a16 a17 xs18 xs19 s20 b21 a22 a23 xs24 s25 b26 a27 a28 xs29 n30 n31 => (rec_ a6 xs7 a8 a9 s10 b11 a12 a13 s14 b15 a16 a17 xs18 xs19 s20 b21 a22 a23 xs24 s25 b26 a27 a28 xs29 n30 n31).bind g) g a6 xs7 a8 a9 s10 b11 a12 a13 s14 b15 a16 a17 xs18 xs19 s20 b21 a22 a23 xs24 s25 b26 a27 a28 xs29 n30 n31 := by
 simp only [f100.l3.step, bind_ite, bind_sum, oA, oS, oN]
theorem f100.l3.good (k : Nat) (a6 xs7 a8 a9 s10 b11 a12 a13 s14 b15 a16 a17 xs18 xs19 s20 b21 a22 a23 xs24 s25 b26 a27 a28 xs29 n30 n31) : GoodL (f100.X k) (nthC 0 (loopsOf (bodyOf Try.f100))) (f100.l3.st a6 xs7 a8 a9 s10 b11 a12 a13 s14 b15 a16 a17 xs18 xs19 s20 b21 a22 a23 xs24 s25 b26 a27 a28 xs29 n30 n31) { α := _, o := f100.l3 k k a6 xs7 a8 a9 s10 b11 a12 a13 s14 b15 a16 a17 xs18 xs19 s20 b21 a22 a23 xs24 s25 b26 a27 a28 xs29 n30 n31, w := f100.l3.w } :=
 loop_good (ι := Int × (List Int) × Int × Int × ByteArray × Bool × Int × Int × ByteArray × Bool × Int × Int × (List ByteArray) × (List Int) × ByteArray × Bool × Int × Int × (List S66) × ByteArray × Bool × Int × Int × (List S66) × Nat × Nat) (α := ((List Int) × Int × Int × ByteArray × Bool × Int × Int × ByteArray × Bool × Int × Int × (List ByteArray) × (List Int) × ByteArray × Bool × Int × Int × (List S66) × ByteArray × Bool × Int × Int × (List S66) × Nat × Nat)) (fun i => let i_a := i.2.2.2.2.2.2.2.2; let i_b := i_a.2.2.2.2.2.2.2.2; let i_c := i_b.2.2.2.2.2.2.2.2; f100.l3.st i.1 i.2.1 i.2.2.1 i.2.2.2.1 i.2.2.2.2.1 i.2.2.2.2.2.1 i.2.2.2.2.2.2.1 i.2.2.2.2.2.2.2.1 i_a.1 i_a.2.1 i_a.2.2.1 i_a.2.2.2.1 i_a.2.2.2.2.1 i_a.2.2.2.2.2.1 i_a.2.2.2.2.2.2.1 i_a.2.2.2.2.2.2.2.1 i_b.1 i_b.2.1 i_b.2.2.1 i_b.2.2.2.1 i_b.2.2.2.2.1 i_b.2.2.2.2.2.1 i_b.2.2.2.2.2.2.1 i_b.2.2.2.2.2.2.2.1 i_c.1 i_c.2) (fun j i => let i_a := i.2.2.2.2.2.2.2.2; let i_b := i_a.2.2.2.2.2.2.2.2; let i_c := i_b.2.2.2.2.2.2.2.2; f100.l3 k j i.1 i.2.1 i.2.2.1 i.2.2.2.1 i.2.2.2.2.1 i.2.2.2.2.2.1 i.2.2.2.2.2.2.1 i.2.2.2.2.2.2.2.1 i_a.1 i_a.2.1 i_a.2.2.1 i_a.2.2.2.1 i_a.2.2.2.2.1 i_a.2.2.2.2.2.1 i_a.2.2.2.2.2.2.1 i_a.2.2.2.2.2.2.2.1 i_b.1 i_b.2.1 i_b.2.2.1 i_b.2.2.2.1 i_b.2.2.2.2.1 i_b.2.2.2.2.2.1 i_b.2.2.2.2.2.2.1 i_b.2.2.2.2.2.2.2.1 i_c.1 i_c.2) f100.l3.w (fun rec_ ret i => let i_a := i.2.2.2.2.2.2.2.2; let i_b := i_a.2.2.2.2.2.2.2.2; let i_c := i_b.2.2.2.2.2.2.2.2; f100.l3.step k (fun a6 xs7 a8 a9 s10 b11 a12 a13 s14 b15 a16 a17 xs18 xs19 s20 b21 a22 a23 xs24 s25 b26 a27 a28 xs29 n30 n31 => rec_ (a6, xs7, a8, a9, s10, b11, a12, a13, s14, b15, a16, a17, xs18, xs19, s20, b21, a22, a23, xs24, s25, b26, a27, a28, xs29, n30, n31)) ret i.1 i.2.1 i.2.2.1 i.2.2.2.1 i.2.2.2.2.1 i.2.2.2.2.2.1 i.2.2.2.2.2.2.1 i.2.2.2.2.2.2.2.1 i_a.1 i_a.2.1 i_a.2.2.1 i_a.2.2.2.1 i_a.2.2.2.2.1 i_a.2.2.2.2.2.1 i_a.2.2.2.2.2.2.1 i_a.2.2.2.2.2.2.2.1 i_b.1 i_b.2.1 i_b.2.2.1 i_b.2.2.2.1 i_b.2.2.2.2.1 i_b.2.2.2.2.2.1 i_b.2.2.2.2.2.2.1 i_b.2.2.2.2.2.2.2.1 i_c.1 i_c.2)
  (fun _ => rfl) (fun _ _ => rfl) (fun rec_ g i => let i_a := i.2.2.2.2.2.2.2.2; let i_b := i_a.2.2.2.2.2.2.2.2; let i_c := i_b.2.2.2.2.2.2.2.2; f100.l3.nat k _ g i.1 i.2.1 i.2.2.1 i.2.2.2.1 i.2.2.2.2.1 i.2.2.2.2.2.1 i.2.2.2.2.2.2.1 i.2.2.2.2.2.2.2.1 i_a.1 i_a.2.1 i_a.2.2.1 i_a.2.2.2.1 i_a.2.2.2.2.1 i_a.2.2.2.2.2.1 i_a.2.2.2.2.2.2.1 i_a.2.2.2.2.2.2.2.1 i_b.1 i_b.2.1 i_b.2.2.1 i_b.2.2.2.1 i_b.2.2.2.2.1 i_b.2.2.2.2.2.1 i_b.2.2.2.2.2.2.1 i_b.2.2.2.2.2.2.2.1 i_c.1 i_c.2) (fun {R} i0 i rec_ K => by kernel_rfl) k (a6, xs7, a8, a9, s10, b11, a12, a13, s14, b15, a16, a17, xs18, xs19, s20, b21, a22, a23, xs24, s25, b26, a27, a28, xs29, n30, n31)
theorem f100.l3.all (k : Nat) (S : St env) : GoodL (f100.X k) (nthC 0 (loopsOf (bodyOf Try.f100))) S (f100.l3.hd k S.ts S.m S.n) := by
 obtain ⟨ts_, m_, n_⟩ := S
 show GoodL _ _ _ (f100.l3.hd k ts_ m_ n_)
 unfold f100.l3.hd
 have hg_ := f100.l3.good k
 exact rdL
theorem f100.nat {R : Type} (k : Nat) (g : _ → Option R) (xs1 a2 a3) : f100.step k g xs1 a2 a3 = (f100 k xs1 a2 a3).bind g := by
 simp only [f100, f100.step, bind_ite, bind_sum, oA, oS, oN]
theorem f100.ev (k : Nat) (xs1 : List Int) (a2 a3 : Int) : evF (f100.X k) (bodyOf Try.f100) Try.f100.ntmps Try.f100.results.toList [.v (.ptr [.sl 5 xs1, .s (.int .i64 a2), .s (.int .i64 a3)])] = f100.step k (fun x => f100.w x some) xs1 a2 a3 := by kernel_rfl
theorem f100.hok (k : Nat) : HOK (f100.X k) (bodyOf Try.f100) where
 l := allP_mem (by exact ⟨ls_of (h0 := fun S => f100.l3.hd k S.ts S.m S.n) (by kernel_rfl) (f100.l3.all k), trivial⟩)
 j := allP_mem (by exact trivial)
 q := allP_mem (by exact trivial)
theorem f100.sound0 (k : Nat) : SoundC env Try.prog 100 (f100.hd k) := by
 intro ps_
 show GoodC _ _ _ ps_ (f100.hd k ps_)
 unfold f100.hd
 have hF_ := fun_sound envOK (cs_sound _ (by exact ⟨⟨f88.sound k, f88.fnok⟩, ⟨f90.sound k, f90.fnok⟩, ⟨f123.sound k, f123.fnok⟩, ⟨f139.sound k, f139.fnok⟩, ⟨f167.sound k, f167.fnok⟩, ⟨f168.sound k, f168.fnok⟩, trivial⟩)) (f100.hok k) Try.func100 rfl
 have hev_ := f100.ev k
 have hnat_ := fun g_ => f100.nat k (R := Res env) g_
 exact rdC
theorem f100.sound (k : Nat) : SoundC env Try.prog 100 (f100.e k).F := soundC_coer (f100.sound0 k) [[.rd 5, .no, .no]]
theorem f100.fnok : FnOK Try.prog 100 := fn_ok Try.func100 (by kernel_rfl) rfl
def f39.step {R : Type} (k : Nat) (ret : (ByteArray × Bool × Int × Int × (List S66) × ByteArray × Bool × Int × Int × (List S66) × (List ByteArray) × (List Int)) → Option R) (xs1 : List Int) : Option R :=
 (f54 k xs1).bind fun t2 => (f100 k t2.1 t2.2.1 t2.2.2).bind fun t3 => ret (t3.1, t3.2.1, t3.2.2.1, t3.2.2.2.1, t3.2.2.2.2.1, t3.2.2.2.2.2.1, t3.2.2.2.2.2.2.1, t3.2.2.2.2.2.2.2.1, t3.2.2.2.2.2.2.2.2.1, t3.2.2.2.2.2.2.2.2.2.1, t3.2.2.2.2.2.2.2.2.2.2.1, t3.2.2.2.2.2.2.2.2.2.2.2.1)
def f39 (k : Nat) (xs1 : List Int) := f39.step k some xs1
def f39.w {R : Type} : (ByteArray × Bool × Int × Int × (List S66) × ByteArray × Bool × Int × Int × (List S66) × (List ByteArray) × (List Int)) → (Res env → Option R) → Option R := fun t4 K => K ⟨.v (.g [.s (.string t4.1), .s (.bool t4.2.1), .s (.int .i64 t4.2.2.1), .s (.int .i64 t4.2.2.2.1), .own true 66 t4.2.2.2.2.1, .s (.string t4.2.2.2.2.2.1), .s (.bool t4.2.2.2.2.2.2.1), .s (.int .i64 t4.2.2.2.2.2.2.2.1), .s (.int .i64 t4.2.2.2.2.2.2.2.2.1), .own true 66 t4.2.2.2.2.2.2.2.2.2.1, .own true 9 t4.2.2.2.2.2.2.2.2.2.2.1, .own true 3 t4.2.2.2.2.2.2.2.2.2.2.2]), [[]]⟩
theorem f39.wn (x : (ByteArray × Bool × Int × Int × (List S66) × ByteArray × Bool × Int × Int × (List S66) × (List ByteArray) × (List Int))) : ∃ res, ∀ {R : Type} (K : Res env → Option R), f39.w x K = K res := by
 exact ⟨_, fun _ => rfl⟩
def f39.hd (k : Nat) (ps_ : List (P2 env)) : Cl env :=
 pM Cl.no 5 ps_ fun xs1 ps_ => gE Cl.no ps_ <| { α := ByteArray × Bool × Int × Int × (List S66) × ByteArray × Bool × Int × Int × (List S66) × (List ByteArray) × (List Int), o := f39 k xs1, w := f39.w, nat := fun x _ => f39.wn x }
def f39.e (k : Nat) : Entry env := ⟨fun ps => f39.hd k (coer [[.rd 5]] ps), [], []⟩
def f39.X (k : Nat) : Ctx env := { X0 with C := lookE [(54, f54.e k), (100, f100.e k)] }
theorem f39.nat {R : Type} (k : Nat) (g : _ → Option R) (xs1) : f39.step k g xs1 = (f39 k xs1).bind g := by
 simp only [f39, f39.step, bind_ite, bind_sum, oA, oS, oN]
theorem f39.ev (k : Nat) (xs1 : List Int) : evF (f39.X k) (bodyOf Try.f39) Try.f39.ntmps Try.f39.results.toList [.v (.c (.sl 5 xs1))] = f39.step k (fun x => f39.w x some) xs1 := by kernel_rfl
theorem f39.hok (k : Nat) : HOK (f39.X k) (bodyOf Try.f39) where
 l := allP_mem (by exact trivial)
 j := allP_mem (by exact trivial)
 q := allP_mem (by exact trivial)
theorem f39.sound0 (k : Nat) : SoundC env Try.prog 39 (f39.hd k) := by
 intro ps_
 show GoodC _ _ _ ps_ (f39.hd k ps_)
 unfold f39.hd
 have hF_ := fun_sound envOK (cs_sound _ (by exact ⟨⟨f54.sound k, f54.fnok⟩, ⟨f100.sound k, f100.fnok⟩, trivial⟩)) (f39.hok k) Try.func39 rfl
 have hev_ := f39.ev k
 have hnat_ := fun g_ => f39.nat k (R := Res env) g_
 exact rdC
theorem f39.sound (k : Nat) : SoundC env Try.prog 39 (f39.e k).F := soundC_coer (f39.sound0 k) [[.rd 5]]
theorem f39.fnok : FnOK Try.prog 39 := fn_ok Try.func39 (by kernel_rfl) rfl
def f169.l3.step {R : Type} (k : Nat) (rec_ : Int → (List Int) → Int → Int → (List Int) → Option R) (ret : ((List Int) × Int × Int × (List Int)) → Option R) (a6 : Int) (xs7 : List Int) (a8 a9 : Int) (xs10 : List Int) : Option R :=
 if (decide (a6 > 0)) = true then
 (f139 k xs7 a8 a9 256).bind fun t11 => if (List.length xs10 + List.length ([(IntKind.u8.wrap t11.1)] : List Int)) * 1 ≤ maxN then
 rec_ (IntKind.i64.wrap (a6 - 1)) t11.2.1 t11.2.2.1 t11.2.2.2 (xs10 ++ ([(IntKind.u8.wrap t11.1)] : List Int))
 else none
 else
 ret (xs7, a8, a9, xs10)
def f169.l3 (k : Nat) : Nat → Int → (List Int) → Int → Int → (List Int) → Option ((List Int) × Int × Int × (List Int))
 | 0, _, _, _, _, _ => none
 | j + 1, a6, xs7, a8, a9, xs10 => f169.l3.step k (fun a6 xs7 a8 a9 xs10 => f169.l3 k j a6 xs7 a8 a9 xs10) some a6 xs7 a8 a9 xs10
def f169.l3.w {R : Type} : ((List Int) × Int × Int × (List Int)) → (Exit → St env → Option R) → Option R := fun t13 K => K (.exit 0) ⟨fullT [0, 5] 0 23 [.v (.c (.bp 0 0)), .v (.c (.row 18))], [(0, .box [.imm 5 t13.1, .s (.int .i64 t13.2.1), .s (.int .i64 t13.2.2.1)]), (18, .row true 5 t13.2.2.2)], 322⟩
def f169.l3.st (a6 : Int) (xs7 : List Int) (a8 a9 : Int) (xs10 : List Int) : St env := ⟨fullT [0, 5, 6] 0 23 [.v (.c (.bp 0 0)), .v (.c (.row 18)), .v (.c (.s (.int .i64 a6)))], [(0, .box [.imm 5 xs7, .s (.int .i64 a8), .s (.int .i64 a9)]), (18, .row true 5 xs10)], 130⟩
def f169.l3.hd (k : Nat) (ts_ : List (AV env)) (mm_ : Mem env) (n_ : Nat) : LCl env :=
 gTs Ln [0, 5, 6] 23 ts_ fun l_ => tP Ln 0 l_ fun l_ => tR Ln 18 l_ fun l_ => tI Ln l_ fun a6 l_ => gE Ln l_ <| mBox Ln 0 mm_ fun c_ m_ => cM Ln 5 c_ fun xs7 c_ => cI Ln c_ fun a8 c_ => cI Ln c_ fun a9 c_ => gE Ln c_ <| mRow Ln 18 true 5 m_ fun xs10 m_ => gE Ln m_ <| gN Ln 130 n_ { α := (List Int) × Int × Int × (List Int), o := f169.l3 k k a6 xs7 a8 a9 xs10, w := f169.l3.w }
def f169.step {R : Type} (k : Nat) (ret : ((List Int) × (List Int) × Int × Int) → Option R) (xs1 : List Int) (a2 a3 a4 : Int) : Option R :=
 (f139 k xs1 a2 a3 (IntKind.i64.wrap (a4 + 1))).bind fun t5 => (f169.l3 k k t5.1 t5.2.1 t5.2.2.1 t5.2.2.2 ([] : List Int)).bind fun t12 => ret (t12.2.2.2, t12.1, t12.2.1, t12.2.2.1)
def f169 (k : Nat) (xs1 : List Int) (a2 a3 a4 : Int) := f169.step k some xs1 a2 a3 a4
def f169.w {R : Type} : ((List Int) × (List Int) × Int × Int) → (Res env → Option R) → Option R := fun t14 K => K ⟨.v (.c (.own true 5 t14.1)), [[.sl 5 t14.2.1, .s (.int .i64 t14.2.2.1), .s (.int .i64 t14.2.2.2)], []]⟩
theorem f169.wn (x : ((List Int) × (List Int) × Int × Int)) : ∃ res, ∀ {R : Type} (K : Res env → Option R), f169.w x K = K res := by
 exact ⟨_, fun _ => rfl⟩
def f169.hd (k : Nat) (ps_ : List (P2 env)) : Cl env :=
 gC Cl.no ps_ fun p_ ps_ => qP Cl.no p_ fun cs_ => dM Cl.no 5 cs_ fun xs1 cs_ => dI Cl.no cs_ fun a2 cs_ => dI Cl.no cs_ fun a3 cs_ => gE Cl.no cs_ <| pI Cl.no ps_ fun a4 ps_ => gE Cl.no ps_ <| { α := (List Int) × (List Int) × Int × Int, o := f169 k xs1 a2 a3 a4, w := f169.w, nat := fun x _ => f169.wn x }
def f169.e (k : Nat) : Entry env := ⟨fun ps => f169.hd k (coer [[.rd 5, .no, .no], [.no]] ps), [], []⟩
def f169.X (k : Nat) : Ctx env := { X0 with C := lookE [(139, f139.e k)], L := lookE [(3, fun S => f169.l3.hd k S.ts S.m S.n)], keep := lookD [(3, [0, 5, 6])], keepX := lookD [(3, [0, 5])], span := lookN [(3, 192)] }
theorem f169.l3.nat {R : Type} (k : Nat) (rec_) (g : _ → Option R) (a6 xs7 a8 a9 xs10) : (f169.l3.step k rec_ some a6 xs7 a8 a9 xs10).bind g = f169.l3.step k (fun a6 xs7 a8 a9 xs10 => (rec_ a6 xs7 a8 a9 xs10).bind g) g a6 xs7 a8 a9 xs10 := by
 simp only [f169.l3.step, bind_ite, bind_sum, oA, oS, oN]
theorem f169.l3.good (k : Nat) (a6 xs7 a8 a9 xs10) : GoodL (f169.X k) (nthC 0 (loopsOf (bodyOf Try.f169))) (f169.l3.st a6 xs7 a8 a9 xs10) { α := _, o := f169.l3 k k a6 xs7 a8 a9 xs10, w := f169.l3.w } :=
 loop_good (ι := Int × (List Int) × Int × Int × (List Int)) (α := ((List Int) × Int × Int × (List Int))) (fun i => f169.l3.st i.1 i.2.1 i.2.2.1 i.2.2.2.1 i.2.2.2.2) (fun j i => f169.l3 k j i.1 i.2.1 i.2.2.1 i.2.2.2.1 i.2.2.2.2) f169.l3.w (fun rec_ ret i => f169.l3.step k (fun a6 xs7 a8 a9 xs10 => rec_ (a6, xs7, a8, a9, xs10)) ret i.1 i.2.1 i.2.2.1 i.2.2.2.1 i.2.2.2.2)
  (fun _ => rfl) (fun _ _ => rfl) (fun rec_ g i => f169.l3.nat k _ g i.1 i.2.1 i.2.2.1 i.2.2.2.1 i.2.2.2.2) (fun {R} i0 i rec_ K => by kernel_rfl) k (a6, xs7, a8, a9, xs10)
theorem f169.l3.all (k : Nat) (S : St env) : GoodL (f169.X k) (nthC 0 (loopsOf (bodyOf Try.f169))) S (f169.l3.hd k S.ts S.m S.n) := by
 obtain ⟨ts_, m_, n_⟩ := S
 show GoodL _ _ _ (f169.l3.hd k ts_ m_ n_)
 unfold f169.l3.hd
 have hg_ := f169.l3.good k
 exact rdL
theorem f169.nat {R : Type} (k : Nat) (g : _ → Option R) (xs1 a2 a3 a4) : f169.step k g xs1 a2 a3 a4 = (f169 k xs1 a2 a3 a4).bind g := by
 simp only [f169, f169.step, bind_ite, bind_sum, oA, oS, oN]
theorem f169.ev (k : Nat) (xs1 : List Int) (a2 a3 a4 : Int) : evF (f169.X k) (bodyOf Try.f169) Try.f169.ntmps Try.f169.results.toList [.v (.ptr [.sl 5 xs1, .s (.int .i64 a2), .s (.int .i64 a3)]), .v (.c (.s (.int .i64 a4)))] = f169.step k (fun x => f169.w x some) xs1 a2 a3 a4 := by kernel_rfl
theorem f169.hok (k : Nat) : HOK (f169.X k) (bodyOf Try.f169) where
 l := allP_mem (by exact ⟨ls_of (h0 := fun S => f169.l3.hd k S.ts S.m S.n) (by kernel_rfl) (f169.l3.all k), trivial⟩)
 j := allP_mem (by exact trivial)
 q := allP_mem (by exact trivial)
theorem f169.sound0 (k : Nat) : SoundC env Try.prog 169 (f169.hd k) := by
 intro ps_
 show GoodC _ _ _ ps_ (f169.hd k ps_)
 unfold f169.hd
 have hF_ := fun_sound envOK (cs_sound _ (by exact ⟨⟨f139.sound k, f139.fnok⟩, trivial⟩)) (f169.hok k) Try.func169 rfl
 have hev_ := f169.ev k
 have hnat_ := fun g_ => f169.nat k (R := Res env) g_
 exact rdC
theorem f169.sound (k : Nat) : SoundC env Try.prog 169 (f169.e k).F := soundC_coer (f169.sound0 k) [[.rd 5, .no, .no], [.no]]
theorem f169.fnok : FnOK Try.prog 169 := fn_ok Try.func169 (by kernel_rfl) rfl
def f170.step {R : Type} (k : Nat) (ret : (Bool × (List Int) × Int × Int) → Option R) (xs1 : List Int) (a2 a3 a4 : Int) : Option R :=
 (f139 k xs1 a2 a3 a4).bind fun t5 => ret ((decide (t5.1 = (IntKind.i64.wrap (a4 - 1)))), t5.2.1, t5.2.2.1, t5.2.2.2)
def f170 (k : Nat) (xs1 : List Int) (a2 a3 a4 : Int) := f170.step k some xs1 a2 a3 a4
def f170.w {R : Type} : (Bool × (List Int) × Int × Int) → (Res env → Option R) → Option R := fun t6 K => K ⟨.v (.c (.s (.bool t6.1))), [[.sl 5 t6.2.1, .s (.int .i64 t6.2.2.1), .s (.int .i64 t6.2.2.2)], []]⟩
theorem f170.wn (x : (Bool × (List Int) × Int × Int)) : ∃ res, ∀ {R : Type} (K : Res env → Option R), f170.w x K = K res := by
 exact ⟨_, fun _ => rfl⟩
def f170.hd (k : Nat) (ps_ : List (P2 env)) : Cl env :=
 gC Cl.no ps_ fun p_ ps_ => qP Cl.no p_ fun cs_ => dM Cl.no 5 cs_ fun xs1 cs_ => dI Cl.no cs_ fun a2 cs_ => dI Cl.no cs_ fun a3 cs_ => gE Cl.no cs_ <| pI Cl.no ps_ fun a4 ps_ => gE Cl.no ps_ <| { α := Bool × (List Int) × Int × Int, o := f170 k xs1 a2 a3 a4, w := f170.w, nat := fun x _ => f170.wn x }
def f170.e (k : Nat) : Entry env := ⟨fun ps => f170.hd k (coer [[.rd 5, .no, .no], [.no]] ps), [], []⟩
def f170.X (k : Nat) : Ctx env := { X0 with C := lookE [(139, f139.e k)] }
theorem f170.nat {R : Type} (k : Nat) (g : _ → Option R) (xs1 a2 a3 a4) : f170.step k g xs1 a2 a3 a4 = (f170 k xs1 a2 a3 a4).bind g := by
 simp only [f170, f170.step, bind_ite, bind_sum, oA, oS, oN]
theorem f170.ev (k : Nat) (xs1 : List Int) (a2 a3 a4 : Int) : evF (f170.X k) (bodyOf Try.f170) Try.f170.ntmps Try.f170.results.toList [.v (.ptr [.sl 5 xs1, .s (.int .i64 a2), .s (.int .i64 a3)]), .v (.c (.s (.int .i64 a4)))] = f170.step k (fun x => f170.w x some) xs1 a2 a3 a4 := by kernel_rfl
theorem f170.hok (k : Nat) : HOK (f170.X k) (bodyOf Try.f170) where
 l := allP_mem (by exact trivial)
 j := allP_mem (by exact trivial)
 q := allP_mem (by exact trivial)
theorem f170.sound0 (k : Nat) : SoundC env Try.prog 170 (f170.hd k) := by
 intro ps_
 show GoodC _ _ _ ps_ (f170.hd k ps_)
 unfold f170.hd
 have hF_ := fun_sound envOK (cs_sound _ (by exact ⟨⟨f139.sound k, f139.fnok⟩, trivial⟩)) (f170.hok k) Try.func170 rfl
 have hev_ := f170.ev k
 have hnat_ := fun g_ => f170.nat k (R := Res env) g_
 exact rdC
theorem f170.sound (k : Nat) : SoundC env Try.prog 170 (f170.e k).F := soundC_coer (f170.sound0 k) [[.rd 5, .no, .no], [.no]]
theorem f170.fnok : FnOK Try.prog 170 := fn_ok Try.func170 (by kernel_rfl) rfl
def f101.step {R : Type} (k : Nat) (ret : (Int × ByteArray × ByteArray × Int × Int × Int × Int × Bool × Bool × (List Int) × (List Int) × Int × Int) → Option R) (xs1 : List Int) (a2 a3 : Int) : Option R :=
 (f168 k xs1 a2 a3).bind fun t4 => (f168 k t4.2.1 t4.2.2.1 t4.2.2.2).bind fun t5 => (f139 k t5.2.1 t5.2.2.1 t5.2.2.2 4).bind fun t6 => if 0 ≤ t6.1 then
 if t6.1 < ((List.length ([64, 1, 0, 255] : List Int) : Nat) : Int) then
 (f139 k t6.2.1 t6.2.2.1 t6.2.2.2 256).bind fun t7 => (f169 k t7.2.1 t7.2.2.1 t7.2.2.2 40).bind fun t8 => (f170 k t8.2.1 t8.2.2.1 t8.2.2.2 3).bind fun t9 => if t9.1 = true then
 (f139 k t9.2.1 t9.2.2.1 t9.2.2.2 1400).bind fun t10 => if 0 ≤ t10.1 then
 if List.length t8.1 + List.length (List.replicate (Int.toNat t10.1) (0 : Int)) ≤ maxN then
 (f170 k t10.2.1 t10.2.2.1 t10.2.2.2 2).bind fun t11 => if t11.1 = true then
 (f167 k t11.2.1 t11.2.2.1 t11.2.2.2).bind fun t12 => (f167 k t12.2.1 t12.2.2.1 t12.2.2.2).bind fun t13 => (f139 k t13.2.1 t13.2.2.1 t13.2.2.2 65536).bind fun t14 => (f139 k t14.2.1 t14.2.2.1 t14.2.2.2 4).bind fun t15 => if (decide (t15.1 = 0)) = true then
 ret ((4 : Int), t12.1, t13.1, (List.getD ([(64 : Int), (1 : Int), (0 : Int), (255 : Int)] : List Int) (Int.toNat t6.1) (0 : Int)), t7.1, t14.1, (0 : Int), false, true, (t8.1 ++ (List.replicate (Int.toNat t10.1) (0 : Int))), t15.2.1, t15.2.2.1, t15.2.2.2)
 else
 if (decide (t15.1 = 1)) = true then
 (f139 k t15.2.1 t15.2.2.1 t15.2.2.2 (20 : Int)).bind fun t16 => if (decide ((Int.tmod (((List.length (t8.1 ++ (List.replicate (Int.toNat t10.1) (0 : Int)))) : Nat) : Int) (8 : Int)) = (0 : Int))) = true then
 ret ((4 : Int), t12.1, t13.1, (List.getD ([(64 : Int), (1 : Int), (0 : Int), (255 : Int)] : List Int) (Int.toNat t6.1) (0 : Int)), t7.1, t14.1, t16.1, (decide ((((List.length (t8.1 ++ (List.replicate (Int.toNat t10.1) (0 : Int)))) : Nat) : Int) > (0 : Int))), false, (t8.1 ++ (List.replicate (Int.toNat t10.1) (0 : Int))), t16.2.1, t16.2.2.1, t16.2.2.2)
 else
 ret ((4 : Int), t12.1, t13.1, (List.getD ([(64 : Int), (1 : Int), (0 : Int), (255 : Int)] : List Int) (Int.toNat t6.1) (0 : Int)), t7.1, t14.1, t16.1, false, false, (t8.1 ++ (List.replicate (Int.toNat t10.1) (0 : Int))), t16.2.1, t16.2.2.1, t16.2.2.2)
 else
 ret ((4 : Int), t12.1, t13.1, (List.getD ([(64 : Int), (1 : Int), (0 : Int), (255 : Int)] : List Int) (Int.toNat t6.1) (0 : Int)), t7.1, t14.1, (0 : Int), false, false, (t8.1 ++ (List.replicate (Int.toNat t10.1) (0 : Int))), t15.2.1, t15.2.2.1, t15.2.2.2)
 else
 ret ((6 : Int), t4.1, t5.1, (List.getD ([(64 : Int), (1 : Int), (0 : Int), (255 : Int)] : List Int) (Int.toNat t6.1) (0 : Int)), t7.1, (0 : Int), (0 : Int), false, false, (t8.1 ++ (List.replicate (Int.toNat t10.1) (0 : Int))), t11.2.1, t11.2.2.1, t11.2.2.2)
 else none
 else none
 else
 (f170 k t9.2.1 t9.2.2.1 t9.2.2.2 2).bind fun t17 => if t17.1 = true then
 (f167 k t17.2.1 t17.2.2.1 t17.2.2.2).bind fun t18 => (f167 k t18.2.1 t18.2.2.1 t18.2.2.2).bind fun t19 => (f139 k t19.2.1 t19.2.2.1 t19.2.2.2 65536).bind fun t20 => (f139 k t20.2.1 t20.2.2.1 t20.2.2.2 4).bind fun t21 => if (decide (t21.1 = 0)) = true then
 ret (4, t18.1, t19.1, (List.getD ([64, 1, 0, 255] : List Int) (Int.toNat t6.1) 0), t7.1, t20.1, 0, false, true, t8.1, t21.2.1, t21.2.2.1, t21.2.2.2)
 else
 if (decide (t21.1 = 1)) = true then
 (f139 k t21.2.1 t21.2.2.1 t21.2.2.2 20).bind fun t22 => if (decide ((Int.tmod (((List.length t8.1) : Nat) : Int) 8) = 0)) = true then
 ret (4, t18.1, t19.1, (List.getD ([64, 1, 0, 255] : List Int) (Int.toNat t6.1) 0), t7.1, t20.1, t22.1, (decide ((((List.length t8.1) : Nat) : Int) > 0)), false, t8.1, t22.2.1, t22.2.2.1, t22.2.2.2)
 else
 ret (4, t18.1, t19.1, (List.getD ([64, 1, 0, 255] : List Int) (Int.toNat t6.1) 0), t7.1, t20.1, t22.1, false, false, t8.1, t22.2.1, t22.2.2.1, t22.2.2.2)
 else
 ret (4, t18.1, t19.1, (List.getD ([64, 1, 0, 255] : List Int) (Int.toNat t6.1) 0), t7.1, t20.1, 0, false, false, t8.1, t21.2.1, t21.2.2.1, t21.2.2.2)
 else
 ret (6, t4.1, t5.1, (List.getD ([64, 1, 0, 255] : List Int) (Int.toNat t6.1) 0), t7.1, 0, 0, false, false, t8.1, t17.2.1, t17.2.2.1, t17.2.2.2)
 else none
 else none
def f101 (k : Nat) (xs1 : List Int) (a2 a3 : Int) := f101.step k some xs1 a2 a3
def f101.w {R : Type} : (Int × ByteArray × ByteArray × Int × Int × Int × Int × Bool × Bool × (List Int) × (List Int) × Int × Int) → (Res env → Option R) → Option R := fun t23 K => let t23_a := t23.2.2.2.2.2.2.2.2; K ⟨.v (.g [.s (.int .i64 t23.1), .s (.string t23.2.1), .s (.string t23.2.2.1), .s (.int .i64 t23.2.2.2.1), .s (.int .i64 t23.2.2.2.2.1), .s (.int .i64 t23.2.2.2.2.2.1), .s (.int .i64 t23.2.2.2.2.2.2.1), .s (.bool t23.2.2.2.2.2.2.2.1), .s (.bool t23_a.1), .own true 5 t23_a.2.1]), [[.sl 5 t23_a.2.2.1, .s (.int .i64 t23_a.2.2.2.1), .s (.int .i64 t23_a.2.2.2.2)]]⟩
theorem f101.wn (x : (Int × ByteArray × ByteArray × Int × Int × Int × Int × Bool × Bool × (List Int) × (List Int) × Int × Int)) : ∃ res, ∀ {R : Type} (K : Res env → Option R), f101.w x K = K res := by
 exact ⟨_, fun _ => rfl⟩
def f101.hd (k : Nat) (ps_ : List (P2 env)) : Cl env :=
 gC Cl.no ps_ fun p_ ps_ => qP Cl.no p_ fun cs_ => dM Cl.no 5 cs_ fun xs1 cs_ => dI Cl.no cs_ fun a2 cs_ => dI Cl.no cs_ fun a3 cs_ => gE Cl.no cs_ <| gE Cl.no ps_ <| { α := Int × ByteArray × ByteArray × Int × Int × Int × Int × Bool × Bool × (List Int) × (List Int) × Int × Int, o := f101 k xs1 a2 a3, w := f101.w, nat := fun x _ => f101.wn x }
def f101.e (k : Nat) : Entry env := ⟨fun ps => f101.hd k (coer [[.rd 5, .no, .no]] ps), [], []⟩
def f101.X (k : Nat) : Ctx env := { X0 with C := lookE [(139, f139.e k), (167, f167.e k), (168, f168.e k), (169, f169.e k), (170, f170.e k)], eff := fun n => memN n [1, 3] }
theorem f101.nat {R : Type} (k : Nat) (g : _ → Option R) (xs1 a2 a3) : f101.step k g xs1 a2 a3 = (f101 k xs1 a2 a3).bind g := by
 simp only [f101, f101.step, bind_ite, bind_sum, oA, oS, oN]
theorem f101.ev (k : Nat) (xs1 : List Int) (a2 a3 : Int) : evF (f101.X k) (bodyOf Try.f101) Try.f101.ntmps Try.f101.results.toList [.v (.ptr [.sl 5 xs1, .s (.int .i64 a2), .s (.int .i64 a3)])] = f101.step k (fun x => f101.w x some) xs1 a2 a3 := by kernel_rfl
theorem f101.hok (k : Nat) : HOK (f101.X k) (bodyOf Try.f101) where
 l := allP_mem (by exact trivial)
 j := allP_mem (by exact trivial)
 q := allP_mem (by exact trivial)
theorem f101.sound0 (k : Nat) : SoundC env Try.prog 101 (f101.hd k) := by
 intro ps_
 show GoodC _ _ _ ps_ (f101.hd k ps_)
 unfold f101.hd
 have hF_ := fun_sound envOK (cs_sound _ (by exact ⟨⟨f139.sound k, f139.fnok⟩, ⟨f167.sound k, f167.fnok⟩, ⟨f168.sound k, f168.fnok⟩, ⟨f169.sound k, f169.fnok⟩, ⟨f170.sound k, f170.fnok⟩, trivial⟩)) (f101.hok k) Try.func101 rfl
 have hev_ := f101.ev k
 have hnat_ := fun g_ => f101.nat k (R := Res env) g_
 exact rdC
theorem f101.sound (k : Nat) : SoundC env Try.prog 101 (f101.e k).F := soundC_coer (f101.sound0 k) [[.rd 5, .no, .no]]
theorem f101.fnok : FnOK Try.prog 101 := fn_ok Try.func101 (by kernel_rfl) rfl
def f40.step {R : Type} (k : Nat) (ret : (Int × ByteArray × ByteArray × Int × Int × Int × Int × Bool × Bool × (List Int)) → Option R) (xs1 : List Int) : Option R :=
 (f54 k xs1).bind fun t2 => (f101 k t2.1 t2.2.1 t2.2.2).bind fun t3 => ret (t3.1, t3.2.1, t3.2.2.1, t3.2.2.2.1, t3.2.2.2.2.1, t3.2.2.2.2.2.1, t3.2.2.2.2.2.2.1, t3.2.2.2.2.2.2.2.1, t3.2.2.2.2.2.2.2.2.1, t3.2.2.2.2.2.2.2.2.2.1)
def f40 (k : Nat) (xs1 : List Int) := f40.step k some xs1
def f40.w {R : Type} : (Int × ByteArray × ByteArray × Int × Int × Int × Int × Bool × Bool × (List Int)) → (Res env → Option R) → Option R := fun t4 K => K ⟨.v (.g [.s (.int .i64 t4.1), .s (.string t4.2.1), .s (.string t4.2.2.1), .s (.int .i64 t4.2.2.2.1), .s (.int .i64 t4.2.2.2.2.1), .s (.int .i64 t4.2.2.2.2.2.1), .s (.int .i64 t4.2.2.2.2.2.2.1), .s (.bool t4.2.2.2.2.2.2.2.1), .s (.bool t4.2.2.2.2.2.2.2.2.1), .own true 5 t4.2.2.2.2.2.2.2.2.2]), [[]]⟩
theorem f40.wn (x : (Int × ByteArray × ByteArray × Int × Int × Int × Int × Bool × Bool × (List Int))) : ∃ res, ∀ {R : Type} (K : Res env → Option R), f40.w x K = K res := by
 exact ⟨_, fun _ => rfl⟩
def f40.hd (k : Nat) (ps_ : List (P2 env)) : Cl env :=
 pM Cl.no 5 ps_ fun xs1 ps_ => gE Cl.no ps_ <| { α := Int × ByteArray × ByteArray × Int × Int × Int × Int × Bool × Bool × (List Int), o := f40 k xs1, w := f40.w, nat := fun x _ => f40.wn x }
def f40.e (k : Nat) : Entry env := ⟨fun ps => f40.hd k (coer [[.rd 5]] ps), [], []⟩
def f40.X (k : Nat) : Ctx env := { X0 with C := lookE [(54, f54.e k), (101, f101.e k)] }
theorem f40.nat {R : Type} (k : Nat) (g : _ → Option R) (xs1) : f40.step k g xs1 = (f40 k xs1).bind g := by
 simp only [f40, f40.step, bind_ite, bind_sum, oA, oS, oN]
theorem f40.ev (k : Nat) (xs1 : List Int) : evF (f40.X k) (bodyOf Try.f40) Try.f40.ntmps Try.f40.results.toList [.v (.c (.sl 5 xs1))] = f40.step k (fun x => f40.w x some) xs1 := by kernel_rfl
theorem f40.hok (k : Nat) : HOK (f40.X k) (bodyOf Try.f40) where
 l := allP_mem (by exact trivial)
 j := allP_mem (by exact trivial)
 q := allP_mem (by exact trivial)
theorem f40.sound0 (k : Nat) : SoundC env Try.prog 40 (f40.hd k) := by
 intro ps_
 show GoodC _ _ _ ps_ (f40.hd k ps_)
 unfold f40.hd
 have hF_ := fun_sound envOK (cs_sound _ (by exact ⟨⟨f54.sound k, f54.fnok⟩, ⟨f101.sound k, f101.fnok⟩, trivial⟩)) (f40.hok k) Try.func40 rfl
 have hev_ := f40.ev k
 have hnat_ := fun g_ => f40.nat k (R := Res env) g_
 exact rdC
theorem f40.sound (k : Nat) : SoundC env Try.prog 40 (f40.e k).F := soundC_coer (f40.sound0 k) [[.rd 5]]
theorem f40.fnok : FnOK Try.prog 40 := fn_ok Try.func40 (by kernel_rfl) rfl
def f15.step {R : Type} (k : Nat) (ret : Int → Option R) (xs1 : List Int) (a2 a3 : Int) : Option R :=
 if (decide (a3 ≤ 1)) = true then
 ret 0
 else
 if (decide (((List.length xs1) : Int) = 0)) = true then
 if a3 ≠ 0 then
 ret (Int.tmod (IntKind.i64.wrap (a2 * 7)) a3)
 else none
 else
 if ((List.length xs1) : Int) ≠ 0 then
 if 0 ≤ (Int.tmod a2 ((List.length xs1) : Int)) then
 if (Int.tmod a2 ((List.length xs1) : Int)) < ((List.length xs1 : Nat) : Int) then
 if ((List.length xs1) : Int) ≠ 0 then
 if 0 ≤ (Int.tmod (IntKind.i64.wrap (a2 + 1)) ((List.length xs1) : Int)) then
 if (Int.tmod (IntKind.i64.wrap (a2 + 1)) ((List.length xs1) : Int)) < ((List.length xs1 : Nat) : Int) then
 if ((List.length xs1) : Int) ≠ 0 then
 if a3 ≠ 0 then
 ret (Int.tmod (IntKind.i64.wrap ((IntKind.i64.wrap ((IntKind.i64.wrap ((IntKind.i64.wrap (List.getD xs1 (Int.toNat (Int.tmod a2 ((List.length xs1) : Int))) 0)) * 31)) + (IntKind.i64.wrap (List.getD xs1 (Int.toNat (Int.tmod (IntKind.i64.wrap (a2 + 1)) ((List.length xs1) : Int))) 0)))) + (IntKind.i64.wrap (Int.tdiv a2 ((List.length xs1) : Int))))) a3)
 else none
 else none
 else none
 else none
 else none
 else none
 else none
 else none
def f15 (k : Nat) (xs1 : List Int) (a2 a3 : Int) := f15.step k some xs1 a2 a3
def f15.w {R : Type} : Int → (Res env → Option R) → Option R := fun t4 K => K ⟨.v (.c (.s (.int .i64 t4))), [[], [], []]⟩
theorem f15.wn (x : Int) : ∃ res, ∀ {R : Type} (K : Res env → Option R), f15.w x K = K res := by
 exact ⟨_, fun _ => rfl⟩
def f15.hd (k : Nat) (ps_ : List (P2 env)) : Cl env :=
 pM Cl.no 5 ps_ fun xs1 ps_ => pI Cl.no ps_ fun a2 ps_ => pI Cl.no ps_ fun a3 ps_ => gE Cl.no ps_ <| { α := Int, o := f15 k xs1 a2 a3, w := f15.w, nat := fun x _ => f15.wn x }
def f15.e (k : Nat) : Entry env := ⟨fun ps => f15.hd k (coer [[.rd 5], [.no], [.no]] ps), [], []⟩
def f15.X (k : Nat) : Ctx env := X0
theorem f15.nat {R : Type} (k : Nat) (g : _ → Option R) (xs1 a2 a3) : f15.step k g xs1 a2 a3 = (f15 k xs1 a2 a3).bind g := by
 simp only [f15, f15.step, bind_ite, bind_sum, oA, oS, oN]
theorem f15.ev (k : Nat) (xs1 : List Int) (a2 a3 : Int) : evF (f15.X k) (bodyOf Try.f15) Try.f15.ntmps Try.f15.results.toList [.v (.c (.sl 5 xs1)), .v (.c (.s (.int .i64 a2))), .v (.c (.s (.int .i64 a3)))] = f15.step k (fun x => f15.w x some) xs1 a2 a3 := by kernel_rfl
theorem f15.hok (k : Nat) : HOK (f15.X k) (bodyOf Try.f15) where
 l := allP_mem (by exact trivial)
 j := allP_mem (by exact trivial)
 q := allP_mem (by exact trivial)
theorem f15.sound0 (k : Nat) : SoundC env Try.prog 15 (f15.hd k) := by
 intro ps_
 show GoodC _ _ _ ps_ (f15.hd k ps_)
 unfold f15.hd
 have hF_ := fun_sound envOK (cs_sound _ (by exact trivial)) (f15.hok k) Try.func15 rfl
 have hev_ := f15.ev k
 have hnat_ := fun g_ => f15.nat k (R := Res env) g_
 exact rdC
theorem f15.sound (k : Nat) : SoundC env Try.prog 15 (f15.e k).F := soundC_coer (f15.sound0 k) [[.rd 5], [.no], [.no]]
theorem f15.fnok : FnOK Try.prog 15 := fn_ok Try.func15 (by kernel_rfl) rfl
def f125.l4.step {R : Type} (k : Nat) (rec_ : ByteArray → Int → Option R) (ret : (Bool ⊕ (Unit)) → Option R) (s2 : ByteArray) (a3 : Int) : Option R :=
 if (decide (a3 < (((ByteArray.size s2) : Nat) : Int))) = true then
 if 0 ≤ a3 then
 if a3 < ((ByteArray.size s2 : Nat) : Int) then
 if (decide ((bt s2 a3) ≠ 48)) = true then
 if 0 ≤ a3 then
 if a3 < ((ByteArray.size s2 : Nat) : Int) then
 if (decide ((bt s2 a3) ≠ 49)) = true then
 ret (.inl false)
 else
 rec_ s2 (IntKind.i64.wrap (a3 + 1))
 else none
 else none
 else
 rec_ s2 (IntKind.i64.wrap (a3 + 1))
 else none
 else none
 else
 ret (.inr ())
def f125.l4 (k : Nat) : Nat → ByteArray → Int → Option (Bool ⊕ (Unit))
 | 0, _, _ => none
 | j + 1, s2, a3 => f125.l4.step k (fun s2 a3 => f125.l4 k j s2 a3) some s2 a3
def f125.l4.w {R : Type} : (Bool ⊕ (Unit)) → (Exit → St env → Option R) → Option R := fun x K => Sum.elim (fun t6 => K .ret ⟨fullT [2] 0 23 [.v (.c (.s (.bool t6)))], [], 369⟩) (fun t7 => K (.exit 0) ⟨fullT [] 0 23 [], [], 369⟩) x
def f125.l4.st (s2 : ByteArray) (a3 : Int) : St env := ⟨fullT [0, 3] 0 23 [.v (.c (.s (.string s2))), .v (.c (.s (.int .i64 a3)))], [], 81⟩
def f125.l4.hd (k : Nat) (ts_ : List (AV env)) (mm_ : Mem env) (n_ : Nat) : LCl env :=
 gTs Ln [0, 3] 23 ts_ fun l_ => tS Ln l_ fun s2 l_ => tI Ln l_ fun a3 l_ => gE Ln l_ <| gE Ln mm_ <| gN Ln 81 n_ { α := Bool ⊕ (Unit), o := f125.l4 k k s2 a3, w := f125.l4.w }
def f125.step {R : Type} (k : Nat) (ret : Bool → Option R) (s1 : ByteArray) : Option R :=
 if (decide ((((ByteArray.size s1) : Nat) : Int) > 128)) = true then
 ret false
 else
 (f125.l4 k k s1 0).bind (Sum.elim (fun t4 => ret t4) (fun t5 => ret true))
def f125 (k : Nat) (s1 : ByteArray) := f125.step k some s1
def f125.w {R : Type} : Bool → (Res env → Option R) → Option R := fun t8 K => K ⟨.v (.c (.s (.bool t8))), [[]]⟩
theorem f125.wn (x : Bool) : ∃ res, ∀ {R : Type} (K : Res env → Option R), f125.w x K = K res := by
 exact ⟨_, fun _ => rfl⟩
def f125.hd (k : Nat) (ps_ : List (P2 env)) : Cl env :=
 pS Cl.no ps_ fun s1 ps_ => gE Cl.no ps_ <| { α := Bool, o := f125 k s1, w := f125.w, nat := fun x _ => f125.wn x }
def f125.e (k : Nat) : Entry env := ⟨f125.hd k, [], []⟩
def f125.X (k : Nat) : Ctx env := { X0 with L := lookE [(4, fun S => f125.l4.hd k S.ts S.m S.n)], keep := lookD [(4, [0, 3])], keepX := lookD [(4, [2])], span := lookN [(4, 288)] }
theorem f125.l4.nat {R : Type} (k : Nat) (rec_) (g : _ → Option R) (s2 a3) : (f125.l4.step k rec_ some s2 a3).bind g = f125.l4.step k (fun s2 a3 => (rec_ s2 a3).bind g) g s2 a3 := by
 simp only [f125.l4.step, bind_ite, bind_sum, oA, oS, oN]
theorem f125.l4.good (k : Nat) (s2 a3) : GoodL (f125.X k) (nthC 0 (loopsOf (bodyOf Try.f125))) (f125.l4.st s2 a3) { α := _, o := f125.l4 k k s2 a3, w := f125.l4.w } :=
 loop_good (ι := ByteArray × Int) (α := (Bool ⊕ (Unit))) (fun i => f125.l4.st i.1 i.2) (fun j i => f125.l4 k j i.1 i.2) f125.l4.w (fun rec_ ret i => f125.l4.step k (fun s2 a3 => rec_ (s2, a3)) ret i.1 i.2)
  (fun _ => rfl) (fun _ _ => rfl) (fun rec_ g i => f125.l4.nat k _ g i.1 i.2) (fun {R} i0 i rec_ K => by kernel_rfl) k (s2, a3)
theorem f125.l4.all (k : Nat) (S : St env) : GoodL (f125.X k) (nthC 0 (loopsOf (bodyOf Try.f125))) S (f125.l4.hd k S.ts S.m S.n) := by
 obtain ⟨ts_, m_, n_⟩ := S
 show GoodL _ _ _ (f125.l4.hd k ts_ m_ n_)
 unfold f125.l4.hd
 have hg_ := f125.l4.good k
 exact rdL
theorem f125.nat {R : Type} (k : Nat) (g : _ → Option R) (s1) : f125.step k g s1 = (f125 k s1).bind g := by
 simp only [f125, f125.step, bind_ite, bind_sum, oA, oS, oN]
theorem f125.ev (k : Nat) (s1 : ByteArray) : evF (f125.X k) (bodyOf Try.f125) Try.f125.ntmps Try.f125.results.toList [.v (.c (.s (.string s1)))] = f125.step k (fun x => f125.w x some) s1 := by kernel_rfl
theorem f125.hok (k : Nat) : HOK (f125.X k) (bodyOf Try.f125) where
 l := allP_mem (by exact ⟨ls_of (h0 := fun S => f125.l4.hd k S.ts S.m S.n) (by kernel_rfl) (f125.l4.all k), trivial⟩)
 j := allP_mem (by exact trivial)
 q := allP_mem (by exact trivial)
theorem f125.sound (k : Nat) : SoundC env Try.prog 125 ((f125.e k).F) := by
 intro ps_
 show GoodC _ _ _ ps_ (f125.hd k ps_)
 unfold f125.hd
 have hF_ := fun_sound envOK (cs_sound _ (by exact trivial)) (f125.hok k) Try.func125 rfl
 have hev_ := f125.ev k
 have hnat_ := fun g_ => f125.nat k (R := Res env) g_
 exact rdC
theorem f125.fnok : FnOK Try.prog 125 := fn_ok Try.func125 (by kernel_rfl) rfl
def f194.step {R : Type} (k : Nat) (ret : Bool → Option R) (s1 s2 : ByteArray) : Option R :=
 if (decide ((((ByteArray.size s1) : Nat) : Int) ≥ (((ByteArray.size s2) : Nat) : Int))) = true then
 if 0 ≤ (((ByteArray.size s2) : Nat) : Int) then
 if (((ByteArray.size s2) : Nat) : Int) ≤ ((ByteArray.size s1 : Nat) : Int) then
 ret (decide (ByteArray.toList (ByteArray.extract s1 0 (Int.toNat (((ByteArray.size s2) : Nat) : Int))) = ByteArray.toList s2))
 else none
 else none
 else
 ret false
def f194 (k : Nat) (s1 s2 : ByteArray) := f194.step k some s1 s2
def f194.w {R : Type} : Bool → (Res env → Option R) → Option R := fun t3 K => K ⟨.v (.c (.s (.bool t3))), [[], []]⟩
theorem f194.wn (x : Bool) : ∃ res, ∀ {R : Type} (K : Res env → Option R), f194.w x K = K res := by
 exact ⟨_, fun _ => rfl⟩
def f194.hd (k : Nat) (ps_ : List (P2 env)) : Cl env :=
 pS Cl.no ps_ fun s1 ps_ => pS Cl.no ps_ fun s2 ps_ => gE Cl.no ps_ <| { α := Bool, o := f194 k s1 s2, w := f194.w, nat := fun x _ => f194.wn x }
def f194.e (k : Nat) : Entry env := ⟨f194.hd k, [], []⟩
def f194.X (k : Nat) : Ctx env := X0
theorem f194.nat {R : Type} (k : Nat) (g : _ → Option R) (s1 s2) : f194.step k g s1 s2 = (f194 k s1 s2).bind g := by
 simp only [f194, f194.step, bind_ite, bind_sum, oA, oS, oN]
theorem f194.ev (k : Nat) (s1 s2 : ByteArray) : evF (f194.X k) (bodyOf Try.f194) Try.f194.ntmps Try.f194.results.toList [.v (.c (.s (.string s1))), .v (.c (.s (.string s2)))] = f194.step k (fun x => f194.w x some) s1 s2 := by kernel_rfl
theorem f194.hok (k : Nat) : HOK (f194.X k) (bodyOf Try.f194) where
 l := allP_mem (by exact trivial)
 j := allP_mem (by exact trivial)
 q := allP_mem (by exact trivial)
theorem f194.sound (k : Nat) : SoundC env Try.prog 194 ((f194.e k).F) := by
 intro ps_
 show GoodC _ _ _ ps_ (f194.hd k ps_)
 unfold f194.hd
 have hF_ := fun_sound envOK (cs_sound _ (by exact trivial)) (f194.hok k) Try.func194 rfl
 have hev_ := f194.ev k
 have hnat_ := fun g_ => f194.nat k (R := Res env) g_
 exact rdC
theorem f194.fnok : FnOK Try.prog 194 := fn_ok Try.func194 (by kernel_rfl) rfl
def f179.step {R : Type} (k : Nat) (ret : Bool → Option R) (s1 s2 : ByteArray) : Option R :=
 (f194 k s1 s2).bind fun t3 => ret t3
def f179 (k : Nat) (s1 s2 : ByteArray) := f179.step k some s1 s2
def f179.w {R : Type} : Bool → (Res env → Option R) → Option R := fun t4 K => K ⟨.v (.c (.s (.bool t4))), [[], []]⟩
theorem f179.wn (x : Bool) : ∃ res, ∀ {R : Type} (K : Res env → Option R), f179.w x K = K res := by
 exact ⟨_, fun _ => rfl⟩
def f179.hd (k : Nat) (ps_ : List (P2 env)) : Cl env :=
 pS Cl.no ps_ fun s1 ps_ => pS Cl.no ps_ fun s2 ps_ => gE Cl.no ps_ <| { α := Bool, o := f179 k s1 s2, w := f179.w, nat := fun x _ => f179.wn x }
def f179.e (k : Nat) : Entry env := ⟨f179.hd k, [], []⟩
def f179.X (k : Nat) : Ctx env := { X0 with C := lookE [(194, f194.e k)] }
theorem f179.nat {R : Type} (k : Nat) (g : _ → Option R) (s1 s2) : f179.step k g s1 s2 = (f179 k s1 s2).bind g := by
 simp only [f179, f179.step, bind_ite, bind_sum, oA, oS, oN]
theorem f179.ev (k : Nat) (s1 s2 : ByteArray) : evF (f179.X k) (bodyOf Try.f179) Try.f179.ntmps Try.f179.results.toList [.v (.c (.s (.string s1))), .v (.c (.s (.string s2)))] = f179.step k (fun x => f179.w x some) s1 s2 := by kernel_rfl
theorem f179.hok (k : Nat) : HOK (f179.X k) (bodyOf Try.f179) where
 l := allP_mem (by exact trivial)
 j := allP_mem (by exact trivial)
 q := allP_mem (by exact trivial)
theorem f179.sound (k : Nat) : SoundC env Try.prog 179 ((f179.e k).F) := by
 intro ps_
 show GoodC _ _ _ ps_ (f179.hd k ps_)
 unfold f179.hd
 have hF_ := fun_sound envOK (cs_sound _ (by exact ⟨⟨f194.sound k, f194.fnok⟩, trivial⟩)) (f179.hok k) Try.func179 rfl
 have hev_ := f179.ev k
 have hnat_ := fun g_ => f179.nat k (R := Res env) g_
 exact rdC
theorem f179.fnok : FnOK Try.prog 179 := fn_ok Try.func179 (by kernel_rfl) rfl
def f166.l4.step {R : Type} (k : Nat) (rec_ : (List S66) → Int → Int → ByteArray → Bool → Int → Int → (List S66) → Option R) (ret : (Bool ⊕ (Unit)) → Option R) (xs6 : List S66) (a7 a8 : Int) (s9 : ByteArray) (b10 : Bool) (a11 a12 : Int) (xs13 : List S66) : Option R :=
 if (decide (a8 < a7)) = true then
 if 0 ≤ a8 then
 if a8 < ((List.length xs6 : Nat) : Int) then
 if (decide ((((ByteArray.size (List.getD xs6 (Int.toNat a8) (⟨ByteArray.empty, false, 0, 0, []⟩ : S66)).f0) : Nat) : Int) ≤ (((ByteArray.size s9) : Nat) : Int))) = false then
 (f125 k (List.getD xs6 (Int.toNat a8) (⟨ByteArray.empty, false, 0, 0, []⟩ : S66)).f0).bind fun t14 => if (!t14) = false then
 (f179 k (List.getD xs6 (Int.toNat a8) (⟨ByteArray.empty, false, 0, 0, []⟩ : S66)).f0 s9).bind fun t15 => if (!t15) = true then
 ret (.inl false)
 else
 if (decide (a8 = 1)) = true then
 if 0 < ((List.length xs13 : Nat) : Int) then
 if 0 ≤ (((ByteArray.size s9) : Nat) : Int) then
 if (((ByteArray.size s9) : Nat) : Int) < ((ByteArray.size (List.getD xs13 0 (⟨ByteArray.empty, false, 0, 0, []⟩ : S66)).f0 : Nat) : Int) then
 if 0 ≤ (((ByteArray.size s9) : Nat) : Int) then
 if (((ByteArray.size s9) : Nat) : Int) < ((ByteArray.size (List.getD xs6 (Int.toNat a8) (⟨ByteArray.empty, false, 0, 0, []⟩ : S66)).f0 : Nat) : Int) then
 if (decide ((bt (List.getD xs13 0 (⟨ByteArray.empty, false, 0, 0, []⟩ : S66)).f0 (((ByteArray.size s9) : Nat) : Int)) ≥ (bt (List.getD xs6 (Int.toNat a8) (⟨ByteArray.empty, false, 0, 0, []⟩ : S66)).f0 (((ByteArray.size s9) : Nat) : Int)))) = true then
 ret (.inl false)
 else
 rec_ xs6 a7 (IntKind.i64.wrap (a8 + 1)) s9 b10 a11 a12 xs13
 else none
 else none
 else none
 else none
 else none
 else
 rec_ xs6 a7 (IntKind.i64.wrap (a8 + 1)) s9 b10 a11 a12 xs13
 else
 ret (.inl false)
 else
 ret (.inl false)
 else none
 else none
 else
 ret (.inr ())
def f166.l4 (k : Nat) : Nat → (List S66) → Int → Int → ByteArray → Bool → Int → Int → (List S66) → Option (Bool ⊕ (Unit))
 | 0, _, _, _, _, _, _, _, _ => none
 | j + 1, xs6, a7, a8, s9, b10, a11, a12, xs13 => f166.l4.step k (fun xs6 a7 a8 s9 b10 a11 a12 xs13 => f166.l4 k j xs6 a7 a8 s9 b10 a11 a12 xs13) some xs6 a7 a8 s9 b10 a11 a12 xs13
def f166.l4.w {R : Type} : (Bool ⊕ (Unit)) → (Exit → St env → Option R) → Option R := fun x K => Sum.elim (fun t18 => K .ret ⟨fullT [2] 0 59 [.v (.c (.s (.bool t18)))], [], 993⟩) (fun t19 => K (.exit 0) ⟨fullT [] 0 59 [], [], 993⟩) x
def f166.l4.st (xs6 : List S66) (a7 a8 : Int) (s9 : ByteArray) (b10 : Bool) (a11 a12 : Int) (xs13 : List S66) : St env := ⟨fullT [1, 10, 11, 12] 0 59 [.v (.c (.bp 1 0)), .v (.c (.imm 66 xs6)), .v (.c (.s (.int .i64 a7))), .v (.c (.s (.int .i64 a8)))], [(1, .box [.s (.string s9), .s (.bool b10), .s (.int .i64 a11), .s (.int .i64 a12), .imm 66 xs13])], 161⟩
def f166.l4.hd (k : Nat) (ts_ : List (AV env)) (mm_ : Mem env) (n_ : Nat) : LCl env :=
 gTs Ln [1, 10, 11, 12] 59 ts_ fun l_ => tP Ln 1 l_ fun l_ => tM Ln 66 l_ fun xs6 l_ => tI Ln l_ fun a7 l_ => tI Ln l_ fun a8 l_ => gE Ln l_ <| mBox Ln 1 mm_ fun c_ m_ => cS Ln c_ fun s9 c_ => cB Ln c_ fun b10 c_ => cI Ln c_ fun a11 c_ => cI Ln c_ fun a12 c_ => cM Ln 66 c_ fun xs13 c_ => gE Ln c_ <| gE Ln m_ <| gN Ln 161 n_ { α := Bool ⊕ (Unit), o := f166.l4 k k xs6 a7 a8 s9 b10 a11 a12 xs13, w := f166.l4.w }
def f166.step {R : Type} (k : Nat) (ret : Bool → Option R) (s1 : ByteArray) (b2 : Bool) (a3 a4 : Int) (xs5 : List S66) : Option R :=
 if (decide (((List.length xs5) : Int) > 2)) = true then
 ret false
 else
 (f166.l4 k k xs5 ((List.length xs5) : Int) 0 s1 b2 a3 a4 xs5).bind (Sum.elim (fun t16 => ret t16) (fun t17 => ret true))
def f166 (k : Nat) (s1 : ByteArray) (b2 : Bool) (a3 a4 : Int) (xs5 : List S66) := f166.step k some s1 b2 a3 a4 xs5
def f166.w {R : Type} : Bool → (Res env → Option R) → Option R := fun t20 K => K ⟨.v (.c (.s (.bool t20))), [[]]⟩
theorem f166.wn (x : Bool) : ∃ res, ∀ {R : Type} (K : Res env → Option R), f166.w x K = K res := by
 exact ⟨_, fun _ => rfl⟩
def f166.hd (k : Nat) (ps_ : List (P2 env)) : Cl env :=
 gC Cl.no ps_ fun p_ ps_ => qG Cl.no p_ fun cs_ => dS Cl.no cs_ fun s1 cs_ => dB Cl.no cs_ fun b2 cs_ => dI Cl.no cs_ fun a3 cs_ => dI Cl.no cs_ fun a4 cs_ => dM Cl.no 66 cs_ fun xs5 cs_ => gE Cl.no cs_ <| gE Cl.no ps_ <| { α := Bool, o := f166 k s1 b2 a3 a4 xs5, w := f166.w, nat := fun x _ => f166.wn x }
def f166.e (k : Nat) : Entry env := ⟨fun ps => f166.hd k (coer [[.no, .no, .no, .no, .rd 66]] ps), [], []⟩
def f166.X (k : Nat) : Ctx env := { X0 with C := lookE [(125, f125.e k), (179, f179.e k)], L := lookE [(4, fun S => f166.l4.hd k S.ts S.m S.n)], keep := lookD [(4, [1, 10, 11, 12])], keepX := lookD [(4, [2])], span := lookN [(4, 832)] }
theorem f166.l4.nat {R : Type} (k : Nat) (rec_) (g : _ → Option R) (xs6 a7 a8 s9 b10 a11 a12 xs13) : (f166.l4.step k rec_ some xs6 a7 a8 s9 b10 a11 a12 xs13).bind g = f166.l4.step k (fun xs6 a7 a8 s9 b10 a11 a12 xs13 => (rec_ xs6 a7 a8 s9 b10 a11 a12 xs13).bind g) g xs6 a7 a8 s9 b10 a11 a12 xs13 := by
 simp only [f166.l4.step, bind_ite, bind_sum, oA, oS, oN]
theorem f166.l4.good (k : Nat) (xs6 a7 a8 s9 b10 a11 a12 xs13) : GoodL (f166.X k) (nthC 0 (loopsOf (bodyOf Try.f166))) (f166.l4.st xs6 a7 a8 s9 b10 a11 a12 xs13) { α := _, o := f166.l4 k k xs6 a7 a8 s9 b10 a11 a12 xs13, w := f166.l4.w } :=
 loop_good (ι := (List S66) × Int × Int × ByteArray × Bool × Int × Int × (List S66)) (α := (Bool ⊕ (Unit))) (fun i => f166.l4.st i.1 i.2.1 i.2.2.1 i.2.2.2.1 i.2.2.2.2.1 i.2.2.2.2.2.1 i.2.2.2.2.2.2.1 i.2.2.2.2.2.2.2) (fun j i => f166.l4 k j i.1 i.2.1 i.2.2.1 i.2.2.2.1 i.2.2.2.2.1 i.2.2.2.2.2.1 i.2.2.2.2.2.2.1 i.2.2.2.2.2.2.2) f166.l4.w (fun rec_ ret i => f166.l4.step k (fun xs6 a7 a8 s9 b10 a11 a12 xs13 => rec_ (xs6, a7, a8, s9, b10, a11, a12, xs13)) ret i.1 i.2.1 i.2.2.1 i.2.2.2.1 i.2.2.2.2.1 i.2.2.2.2.2.1 i.2.2.2.2.2.2.1 i.2.2.2.2.2.2.2)
  (fun _ => rfl) (fun _ _ => rfl) (fun rec_ g i => f166.l4.nat k _ g i.1 i.2.1 i.2.2.1 i.2.2.2.1 i.2.2.2.2.1 i.2.2.2.2.2.1 i.2.2.2.2.2.2.1 i.2.2.2.2.2.2.2) (fun {R} i0 i rec_ K => by kernel_rfl) k (xs6, a7, a8, s9, b10, a11, a12, xs13)
theorem f166.l4.all (k : Nat) (S : St env) : GoodL (f166.X k) (nthC 0 (loopsOf (bodyOf Try.f166))) S (f166.l4.hd k S.ts S.m S.n) := by
 obtain ⟨ts_, m_, n_⟩ := S
 show GoodL _ _ _ (f166.l4.hd k ts_ m_ n_)
 unfold f166.l4.hd
 have hg_ := f166.l4.good k
 exact rdL
theorem f166.nat {R : Type} (k : Nat) (g : _ → Option R) (s1 b2 a3 a4 xs5) : f166.step k g s1 b2 a3 a4 xs5 = (f166 k s1 b2 a3 a4 xs5).bind g := by
 simp only [f166, f166.step, bind_ite, bind_sum, oA, oS, oN]
theorem f166.ev (k : Nat) (s1 : ByteArray) (b2 : Bool) (a3 a4 : Int) (xs5 : List S66) : evF (f166.X k) (bodyOf Try.f166) Try.f166.ntmps Try.f166.results.toList [.g [.s (.string s1), .s (.bool b2), .s (.int .i64 a3), .s (.int .i64 a4), .sl 66 xs5]] = f166.step k (fun x => f166.w x some) s1 b2 a3 a4 xs5 := by kernel_rfl
theorem f166.hok (k : Nat) : HOK (f166.X k) (bodyOf Try.f166) where
 l := allP_mem (by exact ⟨ls_of (h0 := fun S => f166.l4.hd k S.ts S.m S.n) (by kernel_rfl) (f166.l4.all k), trivial⟩)
 j := allP_mem (by exact trivial)
 q := allP_mem (by exact trivial)
theorem f166.sound0 (k : Nat) : SoundC env Try.prog 166 (f166.hd k) := by
 intro ps_
 show GoodC _ _ _ ps_ (f166.hd k ps_)
 unfold f166.hd
 have hF_ := fun_sound envOK (cs_sound _ (by exact ⟨⟨f125.sound k, f125.fnok⟩, ⟨f179.sound k, f179.fnok⟩, trivial⟩)) (f166.hok k) Try.func166 rfl
 have hev_ := f166.ev k
 have hnat_ := fun g_ => f166.nat k (R := Res env) g_
 exact rdC
theorem f166.sound (k : Nat) : SoundC env Try.prog 166 (f166.e k).F := soundC_coer (f166.sound0 k) [[.no, .no, .no, .no, .rd 66]]
theorem f166.fnok : FnOK Try.prog 166 := fn_ok Try.func166 (by kernel_rfl) rfl
def f63.step {R : Type} (k : Nat) (ret : Bool → Option R) (a1 a2 a3 : Int) : Option R :=
 if (decide (a1 ≥ a2)) = true then
 ret (decide (a1 ≤ a3))
 else
 ret false
def f63 (k : Nat) (a1 a2 a3 : Int) := f63.step k some a1 a2 a3
def f63.w {R : Type} : Bool → (Res env → Option R) → Option R := fun t4 K => K ⟨.v (.c (.s (.bool t4))), [[], [], []]⟩
theorem f63.wn (x : Bool) : ∃ res, ∀ {R : Type} (K : Res env → Option R), f63.w x K = K res := by
 exact ⟨_, fun _ => rfl⟩
def f63.hd (k : Nat) (ps_ : List (P2 env)) : Cl env :=
 pI Cl.no ps_ fun a1 ps_ => pI Cl.no ps_ fun a2 ps_ => pI Cl.no ps_ fun a3 ps_ => gE Cl.no ps_ <| { α := Bool, o := f63 k a1 a2 a3, w := f63.w, nat := fun x _ => f63.wn x }
def f63.e (k : Nat) : Entry env := ⟨f63.hd k, [], []⟩
def f63.X (k : Nat) : Ctx env := X0
theorem f63.nat {R : Type} (k : Nat) (g : _ → Option R) (a1 a2 a3) : f63.step k g a1 a2 a3 = (f63 k a1 a2 a3).bind g := by
 simp only [f63, f63.step, bind_ite, bind_sum, oA, oS, oN]
theorem f63.ev (k : Nat) (a1 a2 a3 : Int) : evF (f63.X k) (bodyOf Try.f63) Try.f63.ntmps Try.f63.results.toList [.v (.c (.s (.int .i64 a1))), .v (.c (.s (.int .i64 a2))), .v (.c (.s (.int .i64 a3)))] = f63.step k (fun x => f63.w x some) a1 a2 a3 := by kernel_rfl
theorem f63.hok (k : Nat) : HOK (f63.X k) (bodyOf Try.f63) where
 l := allP_mem (by exact trivial)
 j := allP_mem (by exact trivial)
 q := allP_mem (by exact trivial)
theorem f63.sound (k : Nat) : SoundC env Try.prog 63 ((f63.e k).F) := by
 intro ps_
 show GoodC _ _ _ ps_ (f63.hd k ps_)
 unfold f63.hd
 have hF_ := fun_sound envOK (cs_sound _ (by exact trivial)) (f63.hok k) Try.func63 rfl
 have hev_ := f63.ev k
 have hnat_ := fun g_ => f63.nat k (R := Res env) g_
 exact rdC
theorem f63.fnok : FnOK Try.prog 63 := fn_ok Try.func63 (by kernel_rfl) rfl
def f93.step {R : Type} (k : Nat) (ret : Bool → Option R) (s1 : ByteArray) (a2 a3 : Int) : Option R :=
 (f125 k s1).bind fun t4 => if t4 = true then
 (f63 k a2 0 99).bind fun t5 => if t5 = true then
 (f63 k a3 0 16).bind fun t6 => ret t6
 else
 ret false
 else
 ret false
def f93 (k : Nat) (s1 : ByteArray) (a2 a3 : Int) := f93.step k some s1 a2 a3
def f93.w {R : Type} : Bool → (Res env → Option R) → Option R := fun t7 K => K ⟨.v (.c (.s (.bool t7))), [[]]⟩
theorem f93.wn (x : Bool) : ∃ res, ∀ {R : Type} (K : Res env → Option R), f93.w x K = K res := by
 exact ⟨_, fun _ => rfl⟩
def f93.hd (k : Nat) (ps_ : List (P2 env)) : Cl env :=
 gC Cl.no ps_ fun p_ ps_ => qG Cl.no p_ fun cs_ => dS Cl.no cs_ fun s1 cs_ => dI Cl.no cs_ fun a2 cs_ => dI Cl.no cs_ fun a3 cs_ => gE Cl.no cs_ <| gE Cl.no ps_ <| { α := Bool, o := f93 k s1 a2 a3, w := f93.w, nat := fun x _ => f93.wn x }
def f93.e (k : Nat) : Entry env := ⟨f93.hd k, [], []⟩
def f93.X (k : Nat) : Ctx env := { X0 with C := lookE [(63, f63.e k), (125, f125.e k)] }
theorem f93.nat {R : Type} (k : Nat) (g : _ → Option R) (s1 a2 a3) : f93.step k g s1 a2 a3 = (f93 k s1 a2 a3).bind g := by
 simp only [f93, f93.step, bind_ite, bind_sum, oA, oS, oN]
theorem f93.ev (k : Nat) (s1 : ByteArray) (a2 a3 : Int) : evF (f93.X k) (bodyOf Try.f93) Try.f93.ntmps Try.f93.results.toList [.g [.s (.string s1), .s (.int .i64 a2), .s (.int .i64 a3)]] = f93.step k (fun x => f93.w x some) s1 a2 a3 := by kernel_rfl
theorem f93.hok (k : Nat) : HOK (f93.X k) (bodyOf Try.f93) where
 l := allP_mem (by exact trivial)
 j := allP_mem (by exact trivial)
 q := allP_mem (by exact trivial)
theorem f93.sound (k : Nat) : SoundC env Try.prog 93 ((f93.e k).F) := by
 intro ps_
 show GoodC _ _ _ ps_ (f93.hd k ps_)
 unfold f93.hd
 have hF_ := fun_sound envOK (cs_sound _ (by exact ⟨⟨f63.sound k, f63.fnok⟩, ⟨f125.sound k, f125.fnok⟩, trivial⟩)) (f93.hok k) Try.func93 rfl
 have hev_ := f93.ev k
 have hnat_ := fun g_ => f93.nat k (R := Res env) g_
 exact rdC
theorem f93.fnok : FnOK Try.prog 93 := fn_ok Try.func93 (by kernel_rfl) rfl
def f96i.w {R : Type} : Int → (Res env → Option R) → Option R := fun t29 K => K ⟨.v (.c (.s (.int .i64 t29))), [[], []]⟩
theorem f96i.wn (x : Int) : ∃ res, ∀ {R : Type} (K : Res env → Option R), f96i.w x K = K res := by
 exact ⟨_, fun _ => rfl⟩
def f96i.hdG (G_ : ByteArray → Bool → Int → Int → (List S66) → Bool → Option Int) (ps_ : List (P2 env)) : Cl env :=
 gC Cl.no ps_ fun p_ ps_ => qG Cl.no p_ fun cs_ => dS Cl.no cs_ fun s1 cs_ => dB Cl.no cs_ fun b2 cs_ => dI Cl.no cs_ fun a3 cs_ => dI Cl.no cs_ fun a4 cs_ => dM Cl.no 66 cs_ fun xs5 cs_ => gE Cl.no cs_ <| pB Cl.no ps_ fun b6 ps_ => gE Cl.no ps_ <| { α := Int, o := G_ s1 b2 a3 a4 xs5 b6, w := f96i.w, nat := fun x _ => f96i.wn x }
def f96i.eG (G_ : ByteArray → Bool → Int → Int → (List S66) → Bool → Option Int) : Entry env := ⟨fun ps => f96i.hdG G_ (coer [[.no, .no, .no, .no, .rd 66], [.no]] ps), [], []⟩
theorem f96i.none_ : SoundC env Try.prog 96 (f96i.eG (fun _ _ _ _ _ _ => none)).F := by
 refine soundC_coer (F := f96i.hdG (fun _ _ _ _ _ _ => none)) ?_ [[.no, .no, .no, .no, .rd 66], [.no]]
 intro ps_
 show GoodC _ _ _ ps_ (f96i.hdG (fun _ _ _ _ _ _ => none) ps_)
 unfold f96i.hdG
 exact rdC
theorem f96.fnok : FnOK Try.prog 96 := fn_ok Try.func96 (by kernel_rfl) rfl
def f96i.l11.step {R : Type} (g96 : ByteArray → Bool → Int → Int → (List S66) → Bool → Option Int) (k : Nat) (rec_ : Int → (List S66) → Int → Int → Option R) (ret : ((Int × Int) ⊕ (Int)) → Option R) (a9 : Int) (xs10 : List S66) (a11 a12 : Int) : Option R :=
 if (decide (a12 < a11)) = true then
 if 0 ≤ a12 then
 if a12 < ((List.length xs10 : Nat) : Int) then
 (g96 (List.getD xs10 (Int.toNat a12) (⟨ByteArray.empty, false, 0, 0, []⟩ : S66)).f0 (List.getD xs10 (Int.toNat a12) (⟨ByteArray.empty, false, 0, 0, []⟩ : S66)).f1 (List.getD xs10 (Int.toNat a12) (⟨ByteArray.empty, false, 0, 0, []⟩ : S66)).f2 (List.getD xs10 (Int.toNat a12) (⟨ByteArray.empty, false, 0, 0, []⟩ : S66)).f3 (List.getD xs10 (Int.toNat a12) (⟨ByteArray.empty, false, 0, 0, []⟩ : S66)).f4 false).bind fun t13 => if (decide (t13 < 0)) = true then
 ret (.inl ((-1 : Int), a9))
 else
 rec_ (IntKind.i64.wrap (a9 + t13)) xs10 a11 (IntKind.i64.wrap (a12 + 1))
 else none
 else none
 else
 ret (.inr a9)
def f96i.l11 (g96 : ByteArray → Bool → Int → Int → (List S66) → Bool → Option Int) (k : Nat) : Nat → Int → (List S66) → Int → Int → Option ((Int × Int) ⊕ (Int))
 | 0, _, _, _, _ => none
 | j + 1, a9, xs10, a11, a12 => f96i.l11.step g96 k (fun a9 xs10 a11 a12 => f96i.l11 g96 k j a9 xs10 a11 a12) some a9 xs10 a11 a12
def f96i.l11.w {R : Type} : ((Int × Int) ⊕ (Int)) → (Exit → St env → Option R) → Option R := fun x K => Sum.elim (fun t25 => K .ret ⟨fullT [4, 5] 0 57 [.v (.c (.s (.int .i64 t25.1))), .v (.c (.s (.int .i64 t25.2)))], [], 626⟩) (fun t26 => K (.exit 0) ⟨fullT [5] 0 57 [.v (.c (.s (.int .i64 t26)))], [], 626⟩) x
def f96i.l11.st (a9 : Int) (xs10 : List S66) (a11 a12 : Int) : St env := ⟨fullT [5, 42, 43, 44] 0 57 [.v (.c (.s (.int .i64 a9))), .v (.c (.imm 66 xs10)), .v (.c (.s (.int .i64 a11))), .v (.c (.s (.int .i64 a12)))], [], 354⟩
def f96i.l11_1.step {R : Type} (g96 : ByteArray → Bool → Int → Int → (List S66) → Bool → Option Int) (k : Nat) (rec_ : Int → (List S66) → Int → Int → Option R) (ret : ((Int × Int) ⊕ (Int)) → Option R) (a16 : Int) (xs17 : List S66) (a18 a19 : Int) : Option R :=
 if (decide (a19 < a18)) = true then
 if 0 ≤ a19 then
 if a19 < ((List.length xs17 : Nat) : Int) then
 (g96 (List.getD xs17 (Int.toNat a19) (⟨ByteArray.empty, false, 0, 0, []⟩ : S66)).f0 (List.getD xs17 (Int.toNat a19) (⟨ByteArray.empty, false, 0, 0, []⟩ : S66)).f1 (List.getD xs17 (Int.toNat a19) (⟨ByteArray.empty, false, 0, 0, []⟩ : S66)).f2 (List.getD xs17 (Int.toNat a19) (⟨ByteArray.empty, false, 0, 0, []⟩ : S66)).f3 (List.getD xs17 (Int.toNat a19) (⟨ByteArray.empty, false, 0, 0, []⟩ : S66)).f4 false).bind fun t20 => if (decide (t20 < 0)) = true then
 ret (.inl ((-1 : Int), a16))
 else
 rec_ (IntKind.i64.wrap (a16 + t20)) xs17 a18 (IntKind.i64.wrap (a19 + 1))
 else none
 else none
 else
 ret (.inr a16)
def f96i.l11_1 (g96 : ByteArray → Bool → Int → Int → (List S66) → Bool → Option Int) (k : Nat) : Nat → Int → (List S66) → Int → Int → Option ((Int × Int) ⊕ (Int))
 | 0, _, _, _, _ => none
 | j + 1, a16, xs17, a18, a19 => f96i.l11_1.step g96 k (fun a16 xs17 a18 a19 => f96i.l11_1 g96 k j a16 xs17 a18 a19) some a16 xs17 a18 a19
def f96i.l11_1.w {R : Type} : ((Int × Int) ⊕ (Int)) → (Exit → St env → Option R) → Option R := fun x K => Sum.elim (fun t27 => K .ret ⟨fullT [4, 5] 0 57 [.v (.c (.s (.int .i64 t27.1))), .v (.c (.s (.int .i64 t27.2)))], [], 754⟩) (fun t28 => K (.exit 0) ⟨fullT [5] 0 57 [.v (.c (.s (.int .i64 t28)))], [], 754⟩) x
def f96i.l11_1.st (a16 : Int) (xs17 : List S66) (a18 a19 : Int) : St env := ⟨fullT [5, 42, 43, 44] 0 57 [.v (.c (.s (.int .i64 a16))), .v (.c (.imm 66 xs17)), .v (.c (.s (.int .i64 a18))), .v (.c (.s (.int .i64 a19)))], [], 482⟩
def f96i.l11_1.hd (g96 : ByteArray → Bool → Int → Int → (List S66) → Bool → Option Int) (k : Nat) (ts_ : List (AV env)) (mm_ : Mem env) (n_ : Nat) : LCl env :=
 gTs Ln [5, 42, 43, 44] 57 ts_ fun l_ => tI Ln l_ fun a16 l_ => tM Ln 66 l_ fun xs17 l_ => tI Ln l_ fun a18 l_ => tI Ln l_ fun a19 l_ => gE Ln l_ <| gE Ln mm_ <| gN Ln 482 n_ { α := (Int × Int) ⊕ (Int), o := f96i.l11_1 g96 k k a16 xs17 a18 a19, w := f96i.l11_1.w }
def f96i.l11.hd (g96 : ByteArray → Bool → Int → Int → (List S66) → Bool → Option Int) (k : Nat) (ts_ : List (AV env)) (mm_ : Mem env) (n_ : Nat) : LCl env :=
 gTs (f96i.l11_1.hd g96 k ts_ mm_ n_) [5, 42, 43, 44] 57 ts_ fun l_ => tI (f96i.l11_1.hd g96 k ts_ mm_ n_) l_ fun a9 l_ => tM (f96i.l11_1.hd g96 k ts_ mm_ n_) 66 l_ fun xs10 l_ => tI (f96i.l11_1.hd g96 k ts_ mm_ n_) l_ fun a11 l_ => tI (f96i.l11_1.hd g96 k ts_ mm_ n_) l_ fun a12 l_ => gE (f96i.l11_1.hd g96 k ts_ mm_ n_) l_ <| gE (f96i.l11_1.hd g96 k ts_ mm_ n_) mm_ <| gN (f96i.l11_1.hd g96 k ts_ mm_ n_) 354 n_ { α := (Int × Int) ⊕ (Int), o := f96i.l11 g96 k k a9 xs10 a11 a12, w := f96i.l11.w }
def f96i.step {R : Type} (g96 : ByteArray → Bool → Int → Int → (List S66) → Bool → Option Int) (k : Nat) (ret : Int → Option R) (s1 : ByteArray) (b2 : Bool) (a3 a4 : Int) (xs5 : List S66) (b6 : Bool) : Option R :=
 (f166 k s1 b2 a3 a4 xs5).bind fun t7 => if (!t7) = true then
 ret (-1 : Int)
 else
 if b2 = true then
 (f93 k s1 a3 a4).bind fun t8 => if (!t8) = true then
 ret (-1 : Int)
 else
 (f96i.l11 g96 k k 1 xs5 ((List.length xs5) : Int) 0).bind (Sum.elim (fun t14 => ret t14.1) (fun t15 => ret t15))
 else
 if (decide (a3 ≠ 0)) = false then
 if (decide (a4 ≠ 0)) = false then
 if (!b6) = true then
 if (decide (((List.length xs5) : Int) ≠ 2)) = true then
 ret (-1 : Int)
 else
 (f96i.l11_1 g96 k k 0 xs5 ((List.length xs5) : Int) 0).bind (Sum.elim (fun t21 => ret t21.1) (fun t22 => ret t22))
 else
 (f96i.l11_1 g96 k k 0 xs5 ((List.length xs5) : Int) 0).bind (Sum.elim (fun t23 => ret t23.1) (fun t24 => ret t24))
 else
 ret (-1 : Int)
 else
 ret (-1 : Int)
def f96i (g96 : ByteArray → Bool → Int → Int → (List S66) → Bool → Option Int) (k : Nat) (s1 : ByteArray) (b2 : Bool) (a3 a4 : Int) (xs5 : List S66) (b6 : Bool) : Option Int := f96i.step g96 k some s1 b2 a3 a4 xs5 b6
def f96i.hd (g96 : ByteArray → Bool → Int → Int → (List S66) → Bool → Option Int) (k : Nat) (ps_ : List (P2 env)) : Cl env := f96i.hdG (f96i g96 k) ps_
def f96i.e (g96 : ByteArray → Bool → Int → Int → (List S66) → Bool → Option Int) (k : Nat) : Entry env := f96i.eG (f96i g96 k)
def f96i.X (g96 : ByteArray → Bool → Int → Int → (List S66) → Bool → Option Int) (k : Nat) : Ctx env := { X0 with C := lookE [(93, f93.e k), (96, f96i.eG g96), (166, f166.e k)], L := lookE [(11, fun S => f96i.l11.hd g96 k S.ts S.m S.n)], keep := lookD [(11, [5, 42, 43, 44])], keepX := lookD [(11, [4, 5])], span := lookN [(11, 272)] }
theorem f96i.l11_1.nat {R : Type} (g96 : ByteArray → Bool → Int → Int → (List S66) → Bool → Option Int) (k : Nat) (rec_) (g : _ → Option R) (a16 xs17 a18 a19) : (f96i.l11_1.step g96 k rec_ some a16 xs17 a18 a19).bind g = f96i.l11_1.step g96 k (fun a16 xs17 a18 a19 => (rec_ a16 xs17 a18 a19).bind g) g a16 xs17 a18 a19 := by
 simp only [f96i.l11_1.step, bind_ite, bind_sum, oA, oS, oN]
theorem f96i.l11_1.good (g96 : ByteArray → Bool → Int → Int → (List S66) → Bool → Option Int) (k : Nat) (a16 xs17 a18 a19) : GoodL (f96i.X g96 k) (nthC 0 (loopsOf (bodyOf Try.f96))) (f96i.l11_1.st a16 xs17 a18 a19) { α := _, o := f96i.l11_1 g96 k k a16 xs17 a18 a19, w := f96i.l11_1.w } :=
 loop_good (ι := Int × (List S66) × Int × Int) (α := ((Int × Int) ⊕ (Int))) (fun i => f96i.l11_1.st i.1 i.2.1 i.2.2.1 i.2.2.2) (fun j i => f96i.l11_1 g96 k j i.1 i.2.1 i.2.2.1 i.2.2.2) f96i.l11_1.w (fun rec_ ret i => f96i.l11_1.step g96 k (fun a16 xs17 a18 a19 => rec_ (a16, xs17, a18, a19)) ret i.1 i.2.1 i.2.2.1 i.2.2.2)
  (fun _ => rfl) (fun _ _ => rfl) (fun rec_ g i => f96i.l11_1.nat g96 k _ g i.1 i.2.1 i.2.2.1 i.2.2.2) (fun {R} i0 i rec_ K => by kernel_rfl) k (a16, xs17, a18, a19)
theorem f96i.l11_1.all (g96 : ByteArray → Bool → Int → Int → (List S66) → Bool → Option Int) (k : Nat) (S : St env) : GoodL (f96i.X g96 k) (nthC 0 (loopsOf (bodyOf Try.f96))) S (f96i.l11_1.hd g96 k S.ts S.m S.n) := by
 obtain ⟨ts_, m_, n_⟩ := S
 show GoodL _ _ _ (f96i.l11_1.hd g96 k ts_ m_ n_)
 unfold f96i.l11_1.hd
 have hg_ := f96i.l11_1.good g96 k
 exact rdL
theorem f96i.l11.nat {R : Type} (g96 : ByteArray → Bool → Int → Int → (List S66) → Bool → Option Int) (k : Nat) (rec_) (g : _ → Option R) (a9 xs10 a11 a12) : (f96i.l11.step g96 k rec_ some a9 xs10 a11 a12).bind g = f96i.l11.step g96 k (fun a9 xs10 a11 a12 => (rec_ a9 xs10 a11 a12).bind g) g a9 xs10 a11 a12 := by
 simp only [f96i.l11.step, bind_ite, bind_sum, oA, oS, oN]
theorem f96i.l11.good (g96 : ByteArray → Bool → Int → Int → (List S66) → Bool → Option Int) (k : Nat) (a9 xs10 a11 a12) : GoodL (f96i.X g96 k) (nthC 0 (loopsOf (bodyOf Try.f96))) (f96i.l11.st a9 xs10 a11 a12) { α := _, o := f96i.l11 g96 k k a9 xs10 a11 a12, w := f96i.l11.w } :=
 loop_good (ι := Int × (List S66) × Int × Int) (α := ((Int × Int) ⊕ (Int))) (fun i => f96i.l11.st i.1 i.2.1 i.2.2.1 i.2.2.2) (fun j i => f96i.l11 g96 k j i.1 i.2.1 i.2.2.1 i.2.2.2) f96i.l11.w (fun rec_ ret i => f96i.l11.step g96 k (fun a9 xs10 a11 a12 => rec_ (a9, xs10, a11, a12)) ret i.1 i.2.1 i.2.2.1 i.2.2.2)
  (fun _ => rfl) (fun _ _ => rfl) (fun rec_ g i => f96i.l11.nat g96 k _ g i.1 i.2.1 i.2.2.1 i.2.2.2) (fun {R} i0 i rec_ K => by kernel_rfl) k (a9, xs10, a11, a12)
theorem f96i.l11.all (g96 : ByteArray → Bool → Int → Int → (List S66) → Bool → Option Int) (k : Nat) (S : St env) : GoodL (f96i.X g96 k) (nthC 0 (loopsOf (bodyOf Try.f96))) S (f96i.l11.hd g96 k S.ts S.m S.n) := by
 obtain ⟨ts_, m_, n_⟩ := S
 have hN_ := f96i.l11_1.all g96 k ⟨ts_, m_, n_⟩
 show GoodL _ _ _ (f96i.l11.hd g96 k ts_ m_ n_)
 unfold f96i.l11.hd
 have hg_ := f96i.l11.good g96 k
 exact rdL
theorem f96i.nat {R : Type} (g96 : ByteArray → Bool → Int → Int → (List S66) → Bool → Option Int) (k : Nat) (g : _ → Option R) (s1 b2 a3 a4 xs5 b6) : f96i.step g96 k g s1 b2 a3 a4 xs5 b6 = (f96i g96 k s1 b2 a3 a4 xs5 b6).bind g := by
 simp only [f96i, f96i.step, bind_ite, bind_sum, oA, oS, oN]
theorem f96i.ev (g96 : ByteArray → Bool → Int → Int → (List S66) → Bool → Option Int) (k : Nat) (s1 : ByteArray) (b2 : Bool) (a3 a4 : Int) (xs5 : List S66) (b6 : Bool) : evF (f96i.X g96 k) (bodyOf Try.f96) Try.f96.ntmps Try.f96.results.toList [.g [.s (.string s1), .s (.bool b2), .s (.int .i64 a3), .s (.int .i64 a4), .sl 66 xs5], .v (.c (.s (.bool b6)))] = f96i.step g96 k (fun x => f96i.w x some) s1 b2 a3 a4 xs5 b6 := by kernel_rfl
theorem f96i.hok (g96 : ByteArray → Bool → Int → Int → (List S66) → Bool → Option Int) (k : Nat) : HOK (f96i.X g96 k) (bodyOf Try.f96) where
 l := allP_mem (by exact ⟨ls_of (h0 := fun S => f96i.l11.hd g96 k S.ts S.m S.n) (by kernel_rfl) (f96i.l11.all g96 k), trivial⟩)
 j := allP_mem (by exact trivial)
 q := allP_mem (by exact trivial)
theorem f96i.sound0 (g96 : ByteArray → Bool → Int → Int → (List S66) → Bool → Option Int) (hg_ : SoundC env Try.prog 96 (f96i.eG g96).F) (k : Nat) : SoundC env Try.prog 96 (f96i.hd g96 k) := by
 intro ps_
 show GoodC _ _ _ ps_ (f96i.hd g96 k ps_)
 unfold f96i.hd f96i.hdG
 have hF_ := fun_sound envOK (cs_sound _ (by exact ⟨⟨f93.sound k, f93.fnok⟩, ⟨hg_, f96.fnok⟩, ⟨f166.sound k, f166.fnok⟩, trivial⟩)) (f96i.hok g96 k) Try.func96 rfl
 have hev_ := f96i.ev g96 k
 have hnat_ := fun g_ => f96i.nat g96 k (R := Res env) g_
 exact rdC
theorem f96i.sound (g96 : ByteArray → Bool → Int → Int → (List S66) → Bool → Option Int) (hg_ : SoundC env Try.prog 96 (f96i.eG g96).F) (k : Nat) : SoundC env Try.prog 96 (f96i.e g96 k).F := soundC_coer (f96i.sound0 g96 hg_ k) [[.no, .no, .no, .no, .rd 66], [.no]]
def f96i.r (k : Nat) : Nat → ByteArray → Bool → Int → Int → (List S66) → Bool → Option Int
 | 0 => fun _ _ _ _ _ _ => none
 | j + 1 => fun s1 b2 a3 a4 xs5 b6 => f96i (f96i.r k j) k s1 b2 a3 a4 xs5 b6
theorem f96i.all_ (k : Nat) : ∀ j, SoundC env Try.prog 96 (f96i.eG (f96i.r k j)).F
 | 0 => f96i.none_
 | j + 1 => f96i.sound (f96i.r k j) (f96i.all_ k j) k
def f96 (k : Nat) (s1 : ByteArray) (b2 : Bool) (a3 a4 : Int) (xs5 : List S66) (b6 : Bool) : Option Int := f96i.r k k s1 b2 a3 a4 xs5 b6
def f96.e (k : Nat) : Entry env := f96i.eG (f96 k)
theorem f96.sound (k : Nat) : SoundC env Try.prog 96 (f96.e k).F := f96i.all_ k k
def f92.step {R : Type} (k : Nat) (ret : Bool → Option R) (s1 : ByteArray) (b2 : Bool) (a3 a4 : Int) (xs5 : List S66) : Option R :=
 if (decide (ByteArray.toList s1 = ByteArray.toList (⟨#[]⟩ : ByteArray))) = true then
 (f96 k s1 b2 a3 a4 xs5 true).bind fun t6 => (f63 k t6 0 60).bind fun t7 => ret t7
 else
 ret false
def f92 (k : Nat) (s1 : ByteArray) (b2 : Bool) (a3 a4 : Int) (xs5 : List S66) := f92.step k some s1 b2 a3 a4 xs5
def f92.w {R : Type} : Bool → (Res env → Option R) → Option R := fun t8 K => K ⟨.v (.c (.s (.bool t8))), [[]]⟩
theorem f92.wn (x : Bool) : ∃ res, ∀ {R : Type} (K : Res env → Option R), f92.w x K = K res := by
 exact ⟨_, fun _ => rfl⟩
def f92.hd (k : Nat) (ps_ : List (P2 env)) : Cl env :=
 gC Cl.no ps_ fun p_ ps_ => qG Cl.no p_ fun cs_ => dS Cl.no cs_ fun s1 cs_ => dB Cl.no cs_ fun b2 cs_ => dI Cl.no cs_ fun a3 cs_ => dI Cl.no cs_ fun a4 cs_ => dM Cl.no 66 cs_ fun xs5 cs_ => gE Cl.no cs_ <| gE Cl.no ps_ <| { α := Bool, o := f92 k s1 b2 a3 a4 xs5, w := f92.w, nat := fun x _ => f92.wn x }
def f92.e (k : Nat) : Entry env := ⟨fun ps => f92.hd k (coer [[.no, .no, .no, .no, .rd 66]] ps), [], []⟩
def f92.X (k : Nat) : Ctx env := { X0 with C := lookE [(63, f63.e k), (96, f96.e k)] }
theorem f92.nat {R : Type} (k : Nat) (g : _ → Option R) (s1 b2 a3 a4 xs5) : f92.step k g s1 b2 a3 a4 xs5 = (f92 k s1 b2 a3 a4 xs5).bind g := by
 simp only [f92, f92.step, bind_ite, bind_sum, oA, oS, oN]
theorem f92.ev (k : Nat) (s1 : ByteArray) (b2 : Bool) (a3 a4 : Int) (xs5 : List S66) : evF (f92.X k) (bodyOf Try.f92) Try.f92.ntmps Try.f92.results.toList [.g [.s (.string s1), .s (.bool b2), .s (.int .i64 a3), .s (.int .i64 a4), .sl 66 xs5]] = f92.step k (fun x => f92.w x some) s1 b2 a3 a4 xs5 := by kernel_rfl
theorem f92.hok (k : Nat) : HOK (f92.X k) (bodyOf Try.f92) where
 l := allP_mem (by exact trivial)
 j := allP_mem (by exact trivial)
 q := allP_mem (by exact trivial)
theorem f92.sound0 (k : Nat) : SoundC env Try.prog 92 (f92.hd k) := by
 intro ps_
 show GoodC _ _ _ ps_ (f92.hd k ps_)
 unfold f92.hd
 have hF_ := fun_sound envOK (cs_sound _ (by exact ⟨⟨f63.sound k, f63.fnok⟩, ⟨f96.sound k, f96.fnok⟩, trivial⟩)) (f92.hok k) Try.func92 rfl
 have hev_ := f92.ev k
 have hnat_ := fun g_ => f92.nat k (R := Res env) g_
 exact rdC
theorem f92.sound (k : Nat) : SoundC env Try.prog 92 (f92.e k).F := soundC_coer (f92.sound0 k) [[.no, .no, .no, .no, .rd 66]]
theorem f92.fnok : FnOK Try.prog 92 := fn_ok Try.func92 (by kernel_rfl) rfl
def f121i.w {R : Type} : Int → (Res env → Option R) → Option R := fun t13 K => K ⟨.v (.c (.s (.int .i64 t13))), [[]]⟩
theorem f121i.wn (x : Int) : ∃ res, ∀ {R : Type} (K : Res env → Option R), f121i.w x K = K res := by
 exact ⟨_, fun _ => rfl⟩
def f121i.hdG (G_ : ByteArray → Bool → Int → Int → (List S66) → Option Int) (ps_ : List (P2 env)) : Cl env :=
 gC Cl.no ps_ fun p_ ps_ => qG Cl.no p_ fun cs_ => dS Cl.no cs_ fun s1 cs_ => dB Cl.no cs_ fun b2 cs_ => dI Cl.no cs_ fun a3 cs_ => dI Cl.no cs_ fun a4 cs_ => dM Cl.no 66 cs_ fun xs5 cs_ => gE Cl.no cs_ <| gE Cl.no ps_ <| { α := Int, o := G_ s1 b2 a3 a4 xs5, w := f121i.w, nat := fun x _ => f121i.wn x }
def f121i.eG (G_ : ByteArray → Bool → Int → Int → (List S66) → Option Int) : Entry env := ⟨fun ps => f121i.hdG G_ (coer [[.no, .no, .no, .no, .rd 66]] ps), [], []⟩
theorem f121i.none_ : SoundC env Try.prog 121 (f121i.eG (fun _ _ _ _ _ => none)).F := by
 refine soundC_coer (F := f121i.hdG (fun _ _ _ _ _ => none)) ?_ [[.no, .no, .no, .no, .rd 66]]
 intro ps_
 show GoodC _ _ _ ps_ (f121i.hdG (fun _ _ _ _ _ => none) ps_)
 unfold f121i.hdG
 exact rdC
theorem f121.fnok : FnOK Try.prog 121 := fn_ok Try.func121 (by kernel_rfl) rfl
def f121i.l3.step {R : Type} (g121 : ByteArray → Bool → Int → Int → (List S66) → Option Int) (k : Nat) (rec_ : Int → (List S66) → Int → Int → Option R) (ret : Int → Option R) (a6 : Int) (xs7 : List S66) (a8 a9 : Int) : Option R :=
 if (decide (a9 < a8)) = true then
 if 0 ≤ a9 then
 if a9 < ((List.length xs7 : Nat) : Int) then
 (g121 (List.getD xs7 (Int.toNat a9) (⟨ByteArray.empty, false, 0, 0, []⟩ : S66)).f0 (List.getD xs7 (Int.toNat a9) (⟨ByteArray.empty, false, 0, 0, []⟩ : S66)).f1 (List.getD xs7 (Int.toNat a9) (⟨ByteArray.empty, false, 0, 0, []⟩ : S66)).f2 (List.getD xs7 (Int.toNat a9) (⟨ByteArray.empty, false, 0, 0, []⟩ : S66)).f3 (List.getD xs7 (Int.toNat a9) (⟨ByteArray.empty, false, 0, 0, []⟩ : S66)).f4).bind fun t10 => rec_ (if t10 > a6 then t10 else a6) xs7 a8 (IntKind.i64.wrap (a9 + 1))
 else none
 else none
 else
 ret a6
def f121i.l3 (g121 : ByteArray → Bool → Int → Int → (List S66) → Option Int) (k : Nat) : Nat → Int → (List S66) → Int → Int → Option Int
 | 0, _, _, _, _ => none
 | j + 1, a6, xs7, a8, a9 => f121i.l3.step g121 k (fun a6 xs7 a8 a9 => f121i.l3 g121 k j a6 xs7 a8 a9) some a6 xs7 a8 a9
def f121i.l3.w {R : Type} : Int → (Exit → St env → Option R) → Option R := fun t12 K => K (.exit 0) ⟨fullT [3] 0 22 [.v (.c (.s (.int .i64 t12)))], [], 353⟩
def f121i.l3.st (a6 : Int) (xs7 : List S66) (a8 a9 : Int) : St env := ⟨fullT [3, 10, 11, 12] 0 22 [.v (.c (.s (.int .i64 a6))), .v (.c (.imm 66 xs7)), .v (.c (.s (.int .i64 a8))), .v (.c (.s (.int .i64 a9)))], [], 161⟩
def f121i.l3.hd (g121 : ByteArray → Bool → Int → Int → (List S66) → Option Int) (k : Nat) (ts_ : List (AV env)) (mm_ : Mem env) (n_ : Nat) : LCl env :=
 gTs Ln [3, 10, 11, 12] 22 ts_ fun l_ => tI Ln l_ fun a6 l_ => tM Ln 66 l_ fun xs7 l_ => tI Ln l_ fun a8 l_ => tI Ln l_ fun a9 l_ => gE Ln l_ <| gE Ln mm_ <| gN Ln 161 n_ { α := Int, o := f121i.l3 g121 k k a6 xs7 a8 a9, w := f121i.l3.w }
def f121i.step {R : Type} (g121 : ByteArray → Bool → Int → Int → (List S66) → Option Int) (k : Nat) (ret : Int → Option R) (s1 : ByteArray) (b2 : Bool) (a3 a4 : Int) (xs5 : List S66) : Option R :=
 (f121i.l3 g121 k k (((ByteArray.size s1) : Nat) : Int) xs5 ((List.length xs5) : Int) 0).bind fun t11 => ret t11
def f121i (g121 : ByteArray → Bool → Int → Int → (List S66) → Option Int) (k : Nat) (s1 : ByteArray) (b2 : Bool) (a3 a4 : Int) (xs5 : List S66) : Option Int := f121i.step g121 k some s1 b2 a3 a4 xs5
def f121i.hd (g121 : ByteArray → Bool → Int → Int → (List S66) → Option Int) (k : Nat) (ps_ : List (P2 env)) : Cl env := f121i.hdG (f121i g121 k) ps_
def f121i.e (g121 : ByteArray → Bool → Int → Int → (List S66) → Option Int) (k : Nat) : Entry env := f121i.eG (f121i g121 k)
def f121i.X (g121 : ByteArray → Bool → Int → Int → (List S66) → Option Int) (k : Nat) : Ctx env := { X0 with C := lookE [(121, f121i.eG g121)], L := lookE [(3, fun S => f121i.l3.hd g121 k S.ts S.m S.n)], keep := lookD [(3, [3, 10, 11, 12])], keepX := lookD [(3, [3])], span := lookN [(3, 192)] }
theorem f121i.l3.nat {R : Type} (g121 : ByteArray → Bool → Int → Int → (List S66) → Option Int) (k : Nat) (rec_) (g : _ → Option R) (a6 xs7 a8 a9) : (f121i.l3.step g121 k rec_ some a6 xs7 a8 a9).bind g = f121i.l3.step g121 k (fun a6 xs7 a8 a9 => (rec_ a6 xs7 a8 a9).bind g) g a6 xs7 a8 a9 := by
 simp only [f121i.l3.step, bind_ite, bind_sum, oA, oS, oN]
theorem f121i.l3.good (g121 : ByteArray → Bool → Int → Int → (List S66) → Option Int) (k : Nat) (a6 xs7 a8 a9) : GoodL (f121i.X g121 k) (nthC 0 (loopsOf (bodyOf Try.f121))) (f121i.l3.st a6 xs7 a8 a9) { α := _, o := f121i.l3 g121 k k a6 xs7 a8 a9, w := f121i.l3.w } :=
 loop_good (ι := Int × (List S66) × Int × Int) (α := Int) (fun i => f121i.l3.st i.1 i.2.1 i.2.2.1 i.2.2.2) (fun j i => f121i.l3 g121 k j i.1 i.2.1 i.2.2.1 i.2.2.2) f121i.l3.w (fun rec_ ret i => f121i.l3.step g121 k (fun a6 xs7 a8 a9 => rec_ (a6, xs7, a8, a9)) ret i.1 i.2.1 i.2.2.1 i.2.2.2)
  (fun _ => rfl) (fun _ _ => rfl) (fun rec_ g i => f121i.l3.nat g121 k _ g i.1 i.2.1 i.2.2.1 i.2.2.2) (fun {R} i0 i rec_ K => by kernel_rfl) k (a6, xs7, a8, a9)
theorem f121i.l3.all (g121 : ByteArray → Bool → Int → Int → (List S66) → Option Int) (k : Nat) (S : St env) : GoodL (f121i.X g121 k) (nthC 0 (loopsOf (bodyOf Try.f121))) S (f121i.l3.hd g121 k S.ts S.m S.n) := by
 obtain ⟨ts_, m_, n_⟩ := S
 show GoodL _ _ _ (f121i.l3.hd g121 k ts_ m_ n_)
 unfold f121i.l3.hd
 have hg_ := f121i.l3.good g121 k
 exact rdL
theorem f121i.nat {R : Type} (g121 : ByteArray → Bool → Int → Int → (List S66) → Option Int) (k : Nat) (g : _ → Option R) (s1 b2 a3 a4 xs5) : f121i.step g121 k g s1 b2 a3 a4 xs5 = (f121i g121 k s1 b2 a3 a4 xs5).bind g := by
 simp only [f121i, f121i.step, bind_ite, bind_sum, oA, oS, oN]
theorem f121i.ev (g121 : ByteArray → Bool → Int → Int → (List S66) → Option Int) (k : Nat) (s1 : ByteArray) (b2 : Bool) (a3 a4 : Int) (xs5 : List S66) : evF (f121i.X g121 k) (bodyOf Try.f121) Try.f121.ntmps Try.f121.results.toList [.g [.s (.string s1), .s (.bool b2), .s (.int .i64 a3), .s (.int .i64 a4), .sl 66 xs5]] = f121i.step g121 k (fun x => f121i.w x some) s1 b2 a3 a4 xs5 := by kernel_rfl
theorem f121i.hok (g121 : ByteArray → Bool → Int → Int → (List S66) → Option Int) (k : Nat) : HOK (f121i.X g121 k) (bodyOf Try.f121) where
 l := allP_mem (by exact ⟨ls_of (h0 := fun S => f121i.l3.hd g121 k S.ts S.m S.n) (by kernel_rfl) (f121i.l3.all g121 k), trivial⟩)
 j := allP_mem (by exact trivial)
 q := allP_mem (by exact trivial)
theorem f121i.sound0 (g121 : ByteArray → Bool → Int → Int → (List S66) → Option Int) (hg_ : SoundC env Try.prog 121 (f121i.eG g121).F) (k : Nat) : SoundC env Try.prog 121 (f121i.hd g121 k) := by
 intro ps_
 show GoodC _ _ _ ps_ (f121i.hd g121 k ps_)
 unfold f121i.hd f121i.hdG
 have hF_ := fun_sound envOK (cs_sound _ (by exact ⟨⟨hg_, f121.fnok⟩, trivial⟩)) (f121i.hok g121 k) Try.func121 rfl
 have hev_ := f121i.ev g121 k
 have hnat_ := fun g_ => f121i.nat g121 k (R := Res env) g_
 exact rdC
theorem f121i.sound (g121 : ByteArray → Bool → Int → Int → (List S66) → Option Int) (hg_ : SoundC env Try.prog 121 (f121i.eG g121).F) (k : Nat) : SoundC env Try.prog 121 (f121i.e g121 k).F := soundC_coer (f121i.sound0 g121 hg_ k) [[.no, .no, .no, .no, .rd 66]]
def f121i.r (k : Nat) : Nat → ByteArray → Bool → Int → Int → (List S66) → Option Int
 | 0 => fun _ _ _ _ _ => none
 | j + 1 => fun s1 b2 a3 a4 xs5 => f121i (f121i.r k j) k s1 b2 a3 a4 xs5
theorem f121i.all_ (k : Nat) : ∀ j, SoundC env Try.prog 121 (f121i.eG (f121i.r k j)).F
 | 0 => f121i.none_
 | j + 1 => f121i.sound (f121i.r k j) (f121i.all_ k j) k
def f121 (k : Nat) (s1 : ByteArray) (b2 : Bool) (a3 a4 : Int) (xs5 : List S66) : Option Int := f121i.r k k s1 b2 a3 a4 xs5
def f121.e (k : Nat) : Entry env := f121i.eG (f121 k)
theorem f121.sound (k : Nat) : SoundC env Try.prog 121 (f121.e k).F := f121i.all_ k k
def f122.step {R : Type} (k : Nat) (ret : Bool → Option R) (s1 : ByteArray) : Option R :=
 if (decide ((((ByteArray.size s1) : Nat) : Int) = 4)) = false then
 ret (decide ((((ByteArray.size s1) : Nat) : Int) = 16))
 else
 ret true
def f122 (k : Nat) (s1 : ByteArray) := f122.step k some s1
def f122.w {R : Type} : Bool → (Res env → Option R) → Option R := fun t2 K => K ⟨.v (.c (.s (.bool t2))), [[]]⟩
theorem f122.wn (x : Bool) : ∃ res, ∀ {R : Type} (K : Res env → Option R), f122.w x K = K res := by
 exact ⟨_, fun _ => rfl⟩
def f122.hd (k : Nat) (ps_ : List (P2 env)) : Cl env :=
 pS Cl.no ps_ fun s1 ps_ => gE Cl.no ps_ <| { α := Bool, o := f122 k s1, w := f122.w, nat := fun x _ => f122.wn x }
def f122.e (k : Nat) : Entry env := ⟨f122.hd k, [], []⟩
def f122.X (k : Nat) : Ctx env := X0
theorem f122.nat {R : Type} (k : Nat) (g : _ → Option R) (s1) : f122.step k g s1 = (f122 k s1).bind g := by
 simp only [f122, f122.step, bind_ite, bind_sum, oA, oS, oN]
theorem f122.ev (k : Nat) (s1 : ByteArray) : evF (f122.X k) (bodyOf Try.f122) Try.f122.ntmps Try.f122.results.toList [.v (.c (.s (.string s1)))] = f122.step k (fun x => f122.w x some) s1 := by kernel_rfl
theorem f122.hok (k : Nat) : HOK (f122.X k) (bodyOf Try.f122) where
 l := allP_mem (by exact trivial)
 j := allP_mem (by exact trivial)
 q := allP_mem (by exact trivial)
theorem f122.sound (k : Nat) : SoundC env Try.prog 122 ((f122.e k).F) := by
 intro ps_
 show GoodC _ _ _ ps_ (f122.hd k ps_)
 unfold f122.hd
 have hF_ := fun_sound envOK (cs_sound _ (by exact trivial)) (f122.hok k) Try.func122 rfl
 have hev_ := f122.ev k
 have hnat_ := fun g_ => f122.nat k (R := Res env) g_
 exact rdC
theorem f122.fnok : FnOK Try.prog 122 := fn_ok Try.func122 (by kernel_rfl) rfl
def f50.l6.step {R : Type} (k : Nat) (rec_ : (List Int) → Int → Int → ByteArray → Bool → Int → Int → (List S66) → ByteArray → Bool → Int → Int → (List S66) → (List ByteArray) → (List Int) → Option R) (ret : ((Bool × ByteArray × Bool × Int × Int × (List S66) × ByteArray × Bool × Int × Int × (List S66) × (List ByteArray) × (List Int)) ⊕ (ByteArray × Bool × Int × Int × (List S66) × ByteArray × Bool × Int × Int × (List S66) × (List ByteArray) × (List Int))) → Option R) (xs18 : List Int) (a19 a20 : Int) (s21 : ByteArray) (b22 : Bool) (a23 a24 : Int) (xs25 : List S66) (s26 : ByteArray) (b27 : Bool) (a28 a29 : Int) (xs30 : List S66) (xs31 : List ByteArray) (xs32 : List Int) : Option R :=
 if (decide (a20 < a19)) = true then
 if 0 ≤ a20 then
 if a20 < ((List.length xs18 : Nat) : Int) then
 (f63 k (List.getD xs18 (Int.toNat a20) 0) 576 1520).bind fun t33 => if (!t33) = true then
 ret (.inl (false, s21, b22, a23, a24, xs25, s26, b27, a28, a29, xs30, xs31, xs32))
 else
 rec_ xs18 a19 (IntKind.i64.wrap (a20 + 1)) s21 b22 a23 a24 xs25 s26 b27 a28 a29 xs30 xs31 xs32
 else none
 else none
 else
 ret (.inr (s21, b22, a23, a24, xs25, s26, b27, a28, a29, xs30, xs31, xs32))
def f50.l6 (k : Nat) : Nat → (List Int) → Int → Int → ByteArray → Bool → Int → Int → (List S66) → ByteArray → Bool → Int → Int → (List S66) → (List ByteArray) → (List Int) → Option ((Bool × ByteArray × Bool × Int × Int × (List S66) × ByteArray × Bool × Int × Int × (List S66) × (List ByteArray) × (List Int)) ⊕ (ByteArray × Bool × Int × Int × (List S66) × ByteArray × Bool × Int × Int × (List S66) × (List ByteArray) × (List Int)))
 | 0, _, _, _, _, _, _, _, _, _, _, _, _, _, _, _ => none
 | j + 1, xs18, a19, a20, s21, b22, a23, a24, xs25, s26, b27, a28, a29, xs30, xs31, xs32 => f50.l6.step k (fun xs18 a19 a20 s21 b22 a23 a24 xs25 s26 b27 a28 a29 xs30 xs31 xs32 => f50.l6 k j xs18 a19 a20 s21 b22 a23 a24 xs25 s26 b27 a28 a29 xs30 xs31 xs32) some xs18 a19 a20 s21 b22 a23 a24 xs25 s26 b27 a28 a29 xs30 xs31 xs32
def f50.l6.w {R : Type} : ((Bool × ByteArray × Bool × Int × Int × (List S66) × ByteArray × Bool × Int × Int × (List S66) × (List ByteArray) × (List Int)) ⊕ (ByteArray × Bool × Int × Int × (List S66) × ByteArray × Bool × Int × Int × (List S66) × (List ByteArray) × (List Int))) → (Exit → St env → Option R) → Option R := fun x K => Sum.elim (fun t43 => let t43_a := t43.2.2.2.2.2.2.2.2; K .ret ⟨fullT [1, 2] 0 73 [.v (.c (.bp 1 0)), .v (.c (.s (.bool t43.1)))], [(1, .box [.s (.string t43.2.1), .s (.bool t43.2.2.1), .s (.int .i64 t43.2.2.2.1), .s (.int .i64 t43.2.2.2.2.1), .imm 66 t43.2.2.2.2.2.1, .s (.string t43.2.2.2.2.2.2.1), .s (.bool t43.2.2.2.2.2.2.2.1), .s (.int .i64 t43_a.1), .s (.int .i64 t43_a.2.1), .imm 66 t43_a.2.2.1, .imm 9 t43_a.2.2.2.1, .imm 3 t43_a.2.2.2.2])], 833⟩) (fun t44 => K (.exit 0) ⟨fullT [1] 0 73 [.v (.c (.bp 1 0))], [(1, .box [.s (.string t44.1), .s (.bool t44.2.1), .s (.int .i64 t44.2.2.1), .s (.int .i64 t44.2.2.2.1), .imm 66 t44.2.2.2.2.1, .s (.string t44.2.2.2.2.2.1), .s (.bool t44.2.2.2.2.2.2.1), .s (.int .i64 t44.2.2.2.2.2.2.2.1), .s (.int .i64 t44.2.2.2.2.2.2.2.2.1), .imm 66 t44.2.2.2.2.2.2.2.2.2.1, .imm 9 t44.2.2.2.2.2.2.2.2.2.2.1, .imm 3 t44.2.2.2.2.2.2.2.2.2.2.2])], 833⟩) x
def f50.l6.st (xs18 : List Int) (a19 a20 : Int) (s21 : ByteArray) (b22 : Bool) (a23 a24 : Int) (xs25 : List S66) (s26 : ByteArray) (b27 : Bool) (a28 a29 : Int) (xs30 : List S66) (xs31 : List ByteArray) (xs32 : List Int) : St env := ⟨fullT [1, 45, 46, 47] 0 73 [.v (.c (.bp 1 0)), .v (.c (.imm 3 xs18)), .v (.c (.s (.int .i64 a19))), .v (.c (.s (.int .i64 a20)))], [(1, .box [.s (.string s21), .s (.bool b22), .s (.int .i64 a23), .s (.int .i64 a24), .imm 66 xs25, .s (.string s26), .s (.bool b27), .s (.int .i64 a28), .s (.int .i64 a29), .imm 66 xs30, .imm 9 xs31, .imm 3 xs32])], 673⟩
def f50.l13.step {R : Type} (k : Nat) (rec_ : Bool → (List ByteArray) → Int → Int → Option R) (ret : ((Bool × Bool) ⊕ (Bool)) → Option R) (b36 : Bool) (xs37 : List ByteArray) (a38 a39 : Int) : Option R :=
 if (decide (a39 < a38)) = true then
 if 0 ≤ a39 then
 if a39 < ((List.length xs37 : Nat) : Int) then
 (f122 k (List.getD xs37 (Int.toNat a39) ByteArray.empty)).bind fun t40 => if (!t40) = true then
 ret (.inl (false, b36))
 else
 if b36 = false then
 rec_ (decide ((((ByteArray.size (List.getD xs37 (Int.toNat a39) ByteArray.empty)) : Nat) : Int) = 16)) xs37 a38 (IntKind.i64.wrap (a39 + 1))
 else
 rec_ true xs37 a38 (IntKind.i64.wrap (a39 + 1))
 else none
 else none
 else
 ret (.inr b36)
def f50.l13 (k : Nat) : Nat → Bool → (List ByteArray) → Int → Int → Option ((Bool × Bool) ⊕ (Bool))
 | 0, _, _, _, _ => none
 | j + 1, b36, xs37, a38, a39 => f50.l13.step k (fun b36 xs37 a38 a39 => f50.l13 k j b36 xs37 a38 a39) some b36 xs37 a38 a39
def f50.l13.w {R : Type} : ((Bool × Bool) ⊕ (Bool)) → (Exit → St env → Option R) → Option R := fun x K => Sum.elim (fun t45 => K .ret ⟨fullT [2, 5] 0 73 [.v (.c (.s (.bool t45.1))), .v (.c (.s (.bool t45.2)))], [], 1185⟩) (fun t46 => K (.exit 2) ⟨fullT [5] 0 73 [.v (.c (.s (.bool t46)))], [], 1185⟩) x
def f50.l13.st (b36 : Bool) (xs37 : List ByteArray) (a38 a39 : Int) : St env := ⟨fullT [5, 56, 57, 58] 0 73 [.v (.c (.s (.bool b36))), .v (.c (.imm 9 xs37)), .v (.c (.s (.int .i64 a38))), .v (.c (.s (.int .i64 a39)))], [], 913⟩
def f50.l6.hd (k : Nat) (ts_ : List (AV env)) (mm_ : Mem env) (n_ : Nat) : LCl env :=
 gTs Ln [1, 45, 46, 47] 73 ts_ fun l_ => tP Ln 1 l_ fun l_ => tM Ln 3 l_ fun xs18 l_ => tI Ln l_ fun a19 l_ => tI Ln l_ fun a20 l_ => gE Ln l_ <| mBox Ln 1 mm_ fun c_ m_ => cS Ln c_ fun s21 c_ => cB Ln c_ fun b22 c_ => cI Ln c_ fun a23 c_ => cI Ln c_ fun a24 c_ => cM Ln 66 c_ fun xs25 c_ => cS Ln c_ fun s26 c_ => cB Ln c_ fun b27 c_ => cI Ln c_ fun a28 c_ => cI Ln c_ fun a29 c_ => cM Ln 66 c_ fun xs30 c_ => cM Ln 9 c_ fun xs31 c_ => cM Ln 3 c_ fun xs32 c_ => gE Ln c_ <| gE Ln m_ <| gN Ln 673 n_ { α := (Bool × ByteArray × Bool × Int × Int × (List S66) × ByteArray × Bool × Int × Int × (List S66) × (List ByteArray) × (List Int)) ⊕ (ByteArray × Bool × Int × Int × (List S66) × ByteArray × Bool × Int × Int × (List S66) × (List ByteArray) × (List Int)), o := f50.l6 k k xs18 a19 a20 s21 b22 a23 a24 xs25 s26 b27 a28 a29 xs30 xs31 xs32, w := f50.l6.w }
def f50.l13.hd (k : Nat) (ts_ : List (AV env)) (mm_ : Mem env) (n_ : Nat) : LCl env :=
 gTs Ln [5, 56, 57, 58] 73 ts_ fun l_ => tB Ln l_ fun b36 l_ => tM Ln 9 l_ fun xs37 l_ => tI Ln l_ fun a38 l_ => tI Ln l_ fun a39 l_ => gE Ln l_ <| gE Ln mm_ <| gN Ln 913 n_ { α := (Bool × Bool) ⊕ (Bool), o := f50.l13 k k b36 xs37 a38 a39, w := f50.l13.w }
def f50.step {R : Type} (k : Nat) (ret : Bool → Option R) (s1 : ByteArray) (b2 : Bool) (a3 a4 : Int) (xs5 : List S66) (s6 : ByteArray) (b7 : Bool) (a8 a9 : Int) (xs10 : List S66) (xs11 : List ByteArray) (xs12 : List Int) : Option R :=
 (f92 k s1 b2 a3 a4 xs5).bind fun t13 => if (!t13) = false then
 (f92 k s6 b7 a8 a9 xs10).bind fun t14 => if (!t14) = false then
 (f121 k s1 b2 a3 a4 xs5).bind fun t15 => if (decide (t15 > 32)) = true then
 ret false
 else
 (f63 k ((List.length xs12) : Int) 1 6).bind fun t16 => if (!t16) = false then
 (f63 k ((List.length xs11) : Int) 1 8).bind fun t17 => if (!t17) = false then
 if 0 < ((List.length xs11 : Nat) : Int) then
 if (decide ((((ByteArray.size (List.getD xs11 0 ByteArray.empty)) : Nat) : Int) ≠ 4)) = true then
 ret false
 else
 (f50.l6 k k xs12 ((List.length xs12) : Int) 0 s1 b2 a3 a4 xs5 s6 b7 a8 a9 xs10 xs11 xs12).bind (Sum.elim (fun t34 => ret t34.1) (fun t35 => (let t35_0 := t35.2.2.2.2.2.2.2.2.2.2.1; (f50.l13 k k false t35_0 (((List.length t35_0) : Nat) : Int) 0).bind (Sum.elim (fun t41 => ret t41.1) (fun t42 => ret t42)))))
 else none
 else
 ret false
 else
 ret false
 else
 ret false
 else
 ret false
def f50 (k : Nat) (s1 : ByteArray) (b2 : Bool) (a3 a4 : Int) (xs5 : List S66) (s6 : ByteArray) (b7 : Bool) (a8 a9 : Int) (xs10 : List S66) (xs11 : List ByteArray) (xs12 : List Int) := f50.step k some s1 b2 a3 a4 xs5 s6 b7 a8 a9 xs10 xs11 xs12
def f50.w {R : Type} : Bool → (Res env → Option R) → Option R := fun t47 K => K ⟨.v (.c (.s (.bool t47))), [[]]⟩
theorem f50.wn (x : Bool) : ∃ res, ∀ {R : Type} (K : Res env → Option R), f50.w x K = K res := by
 exact ⟨_, fun _ => rfl⟩
def f50.hd (k : Nat) (ps_ : List (P2 env)) : Cl env :=
 gC Cl.no ps_ fun p_ ps_ => qG Cl.no p_ fun cs_ => dS Cl.no cs_ fun s1 cs_ => dB Cl.no cs_ fun b2 cs_ => dI Cl.no cs_ fun a3 cs_ => dI Cl.no cs_ fun a4 cs_ => dM Cl.no 66 cs_ fun xs5 cs_ => dS Cl.no cs_ fun s6 cs_ => dB Cl.no cs_ fun b7 cs_ => dI Cl.no cs_ fun a8 cs_ => dI Cl.no cs_ fun a9 cs_ => dM Cl.no 66 cs_ fun xs10 cs_ => dM Cl.no 9 cs_ fun xs11 cs_ => dM Cl.no 3 cs_ fun xs12 cs_ => gE Cl.no cs_ <| gE Cl.no ps_ <| { α := Bool, o := f50 k s1 b2 a3 a4 xs5 s6 b7 a8 a9 xs10 xs11 xs12, w := f50.w, nat := fun x _ => f50.wn x }
def f50.e (k : Nat) : Entry env := ⟨fun ps => f50.hd k (coer [[.no, .no, .no, .no, .rd 66, .no, .no, .no, .no, .rd 66, .rd 9, .rd 3]] ps), [], []⟩
def f50.X (k : Nat) : Ctx env := { X0 with C := lookE [(63, f63.e k), (92, f92.e k), (121, f121.e k), (122, f122.e k)], L := lookE [(6, fun S => f50.l6.hd k S.ts S.m S.n), (13, fun S => f50.l13.hd k S.ts S.m S.n)], keep := lookD [(6, [1, 45, 46, 47]), (13, [5, 56, 57, 58])], keepX := lookD [(6, [1, 2]), (13, [2, 5])], span := lookN [(6, 160), (13, 272)] }
theorem f50.l6.nat {R : Type} (k : Nat) (rec_) (g : _ → Option R) (xs18 a19 a20 s21 b22 a23 a24 xs25 s26 b27 a28 a29 xs30 xs31 xs32) : (f50.l6.step k rec_ some xs18 a19 a20 s21 b22 a23 a24 xs25 s26 b27 a28 a29 xs30 xs31 xs32).bind g = f50.l6.step k (fun xs18 a19 a20 s21 b22 a23 a24 xs25 s26 b27 a28 a29 xs30 xs31 xs32 => (rec_ xs18 a19 a20 s21 b22 a23 a24 xs25 s26 b27 a28 a29 xs30 xs31 xs32).bind g) g xs18 a19 a20 s21 b22 a23 a24 xs25 s26 b27 a28 a29 xs30 xs31 xs32 := by
 simp only [f50.l6.step, bind_ite, bind_sum, oA, oS, oN]
theorem f50.l6.good (k : Nat) (xs18 a19 a20 s21 b22 a23 a24 xs25 s26 b27 a28 a29 xs30 xs31 xs32) : GoodL (f50.X k) (nthC 0 (loopsOf (bodyOf Try.f50))) (f50.l6.st xs18 a19 a20 s21 b22 a23 a24 xs25 s26 b27 a28 a29 xs30 xs31 xs32) { α := _, o := f50.l6 k k xs18 a19 a20 s21 b22 a23 a24 xs25 s26 b27 a28 a29 xs30 xs31 xs32, w := f50.l6.w } :=
 loop_good (ι := (List Int) × Int × Int × ByteArray × Bool × Int × Int × (List S66) × ByteArray × Bool × Int × Int × (List S66) × (List ByteArray) × (List Int)) (α := ((Bool × ByteArray × Bool × Int × Int × (List S66) × ByteArray × Bool × Int × Int × (List S66) × (List ByteArray) × (List Int)) ⊕ (ByteArray × Bool × Int × Int × (List S66) × ByteArray × Bool × Int × Int × (List S66) × (List ByteArray) × (List Int)))) (fun i => let i_a := i.2.2.2.2.2.2.2.2; f50.l6.st i.1 i.2.1 i.2.2.1 i.2.2.2.1 i.2.2.2.2.1 i.2.2.2.2.2.1 i.2.2.2.2.2.2.1 i.2.2.2.2.2.2.2.1 i_a.1 i_a.2.1 i_a.2.2.1 i_a.2.2.2.1 i_a.2.2.2.2.1 i_a.2.2.2.2.2.1 i_a.2.2.2.2.2.2) (fun j i => let i_a := i.2.2.2.2.2.2.2.2; f50.l6 k j i.1 i.2.1 i.2.2.1 i.2.2.2.1 i.2.2.2.2.1 i.2.2.2.2.2.1 i.2.2.2.2.2.2.1 i.2.2.2.2.2.2.2.1 i_a.1 i_a.2.1 i_a.2.2.1 i_a.2.2.2.1 i_a.2.2.2.2.1 i_a.2.2.2.2.2.1 i_a.2.2.2.2.2.2) f50.l6.w (fun rec_ ret i => let i_a := i.2.2.2.2.2.2.2.2; f50.l6.step k (fun xs18 a19 a20 s21 b22 a23 a24 xs25 s26 b27 a28 a29 xs30 xs31 xs32 => rec_ (xs18, a19, a20, s21, b22, a23, a24, xs25, s26, b27, a28, a29, xs30, xs31, xs32)) ret i.1 i.2.1 i.2.2.1 i.2.2.2.1 i.2.2.2.2.1 i.2.2.2.2.2.1 i.2.2.2.2.2.2.1 i.2.2.2.2.2.2.2.1 i_a.1 i_a.2.1 i_a.2.2.1 i_a.2.2.2.1 i_a.2.2.2.2.1 i_a.2.2.2.2.2.1 i_a.2.2.2.2.2.2)
  (fun _ => rfl) (fun _ _ => rfl) (fun rec_ g i => let i_a := i.2.2.2.2.2.2.2.2; f50.l6.nat k _ g i.1 i.2.1 i.2.2.1 i.2.2.2.1 i.2.2.2.2.1 i.2.2.2.2.2.1 i.2.2.2.2.2.2.1 i.2.2.2.2.2.2.2.1 i_a.1 i_a.2.1 i_a.2.2.1 i_a.2.2.2.1 i_a.2.2.2.2.1 i_a.2.2.2.2.2.1 i_a.2.2.2.2.2.2) (fun {R} i0 i rec_ K => by kernel_rfl) k (xs18, a19, a20, s21, b22, a23, a24, xs25, s26, b27, a28, a29, xs30, xs31, xs32)
theorem f50.l6.all (k : Nat) (S : St env) : GoodL (f50.X k) (nthC 0 (loopsOf (bodyOf Try.f50))) S (f50.l6.hd k S.ts S.m S.n) := by
 obtain ⟨ts_, m_, n_⟩ := S
 show GoodL _ _ _ (f50.l6.hd k ts_ m_ n_)
 unfold f50.l6.hd
 have hg_ := f50.l6.good k
 exact rdL
theorem f50.l13.nat {R : Type} (k : Nat) (rec_) (g : _ → Option R) (b36 xs37 a38 a39) : (f50.l13.step k rec_ some b36 xs37 a38 a39).bind g = f50.l13.step k (fun b36 xs37 a38 a39 => (rec_ b36 xs37 a38 a39).bind g) g b36 xs37 a38 a39 := by
 simp only [f50.l13.step, bind_ite, bind_sum, oA, oS, oN]
theorem f50.l13.good (k : Nat) (b36 xs37 a38 a39) : GoodL (f50.X k) (nthC 1 (loopsOf (bodyOf Try.f50))) (f50.l13.st b36 xs37 a38 a39) { α := _, o := f50.l13 k k b36 xs37 a38 a39, w := f50.l13.w } :=
 loop_good (ι := Bool × (List ByteArray) × Int × Int) (α := ((Bool × Bool) ⊕ (Bool))) (fun i => f50.l13.st i.1 i.2.1 i.2.2.1 i.2.2.2) (fun j i => f50.l13 k j i.1 i.2.1 i.2.2.1 i.2.2.2) f50.l13.w (fun rec_ ret i => f50.l13.step k (fun b36 xs37 a38 a39 => rec_ (b36, xs37, a38, a39)) ret i.1 i.2.1 i.2.2.1 i.2.2.2)
  (fun _ => rfl) (fun _ _ => rfl) (fun rec_ g i => f50.l13.nat k _ g i.1 i.2.1 i.2.2.1 i.2.2.2) (fun {R} i0 i rec_ K => by kernel_rfl) k (b36, xs37, a38, a39)
theorem f50.l13.all (k : Nat) (S : St env) : GoodL (f50.X k) (nthC 1 (loopsOf (bodyOf Try.f50))) S (f50.l13.hd k S.ts S.m S.n) := by
 obtain ⟨ts_, m_, n_⟩ := S
 show GoodL _ _ _ (f50.l13.hd k ts_ m_ n_)
 unfold f50.l13.hd
 have hg_ := f50.l13.good k
 exact rdL
theorem f50.nat {R : Type} (k : Nat) (g : _ → Option R) (s1 b2 a3 a4 xs5 s6 b7 a8 a9 xs10 xs11 xs12) : f50.step k g s1 b2 a3 a4 xs5 s6 b7 a8 a9 xs10 xs11 xs12 = (f50 k s1 b2 a3 a4 xs5 s6 b7 a8 a9 xs10 xs11 xs12).bind g := by
 simp only [f50, f50.step, bind_ite, bind_sum, oA, oS, oN]
theorem f50.ev (k : Nat) (s1 : ByteArray) (b2 : Bool) (a3 a4 : Int) (xs5 : List S66) (s6 : ByteArray) (b7 : Bool) (a8 a9 : Int) (xs10 : List S66) (xs11 : List ByteArray) (xs12 : List Int) : evF (f50.X k) (bodyOf Try.f50) Try.f50.ntmps Try.f50.results.toList [.g [.s (.string s1), .s (.bool b2), .s (.int .i64 a3), .s (.int .i64 a4), .sl 66 xs5, .s (.string s6), .s (.bool b7), .s (.int .i64 a8), .s (.int .i64 a9), .sl 66 xs10, .sl 9 xs11, .sl 3 xs12]] = f50.step k (fun x => f50.w x some) s1 b2 a3 a4 xs5 s6 b7 a8 a9 xs10 xs11 xs12 := by kernel_rfl
theorem f50.hok (k : Nat) : HOK (f50.X k) (bodyOf Try.f50) where
 l := allP_mem (by exact ⟨ls_of (h0 := fun S => f50.l6.hd k S.ts S.m S.n) (by kernel_rfl) (f50.l6.all k), ls_of (h0 := fun S => f50.l13.hd k S.ts S.m S.n) (by kernel_rfl) (f50.l13.all k), trivial⟩)
 j := allP_mem (by exact trivial)
 q := allP_mem (by exact trivial)
theorem f50.sound0 (k : Nat) : SoundC env Try.prog 50 (f50.hd k) := by
 intro ps_
 show GoodC _ _ _ ps_ (f50.hd k ps_)
 unfold f50.hd
 have hF_ := fun_sound envOK (cs_sound _ (by exact ⟨⟨f63.sound k, f63.fnok⟩, ⟨f92.sound k, f92.fnok⟩, ⟨f121.sound k, f121.fnok⟩, ⟨f122.sound k, f122.fnok⟩, trivial⟩)) (f50.hok k) Try.func50 rfl
 have hev_ := f50.ev k
 have hnat_ := fun g_ => f50.nat k (R := Res env) g_
 exact rdC
theorem f50.sound (k : Nat) : SoundC env Try.prog 50 (f50.e k).F := soundC_coer (f50.sound0 k) [[.no, .no, .no, .no, .rd 66, .no, .no, .no, .no, .rd 66, .rd 9, .rd 3]]
theorem f50.fnok : FnOK Try.prog 50 := fn_ok Try.func50 (by kernel_rfl) rfl
def f44.step {R : Type} (k : Nat) (ret : Bool → Option R) (a1 : Int) (s2 s3 : ByteArray) (a4 a5 a6 a7 : Int) (b8 b9 : Bool) (xs10 : List Int) : Option R :=
 (f63 k a4 0 255).bind fun t11 => if (!t11) = false then
 (f63 k a5 0 255).bind fun t12 => if (!t12) = false then
 if (decide (((List.length xs10) : Int) > 1500)) = true then
 ret false
 else
 if (decide (a1 = 4)) = true then
 if (decide ((((ByteArray.size s2) : Nat) : Int) ≠ 4)) = false then
 if (decide ((((ByteArray.size s3) : Nat) : Int) ≠ 4)) = false then
 (f63 k a6 0 65535).bind fun t13 => if (!t13) = false then
 (f63 k a7 0 8191).bind fun t14 => if (!t14) = true then
 ret false
 else
 if b9 = true then
 if b8 = false then
 if (decide (a7 > 0)) = true then
 ret false
 else
 if b8 = true then
 if (decide (((List.length xs10) : Int) = 0)) = false then
 if (decide ((Int.tmod ((List.length xs10) : Int) 8) ≠ 0)) = true then
 ret false
 else
 ret (decide ((IntKind.i64.wrap ((IntKind.i64.wrap (8 * a7)) + ((List.length xs10) : Int))) ≤ 65515))
 else
 ret false
 else
 ret (decide ((IntKind.i64.wrap ((IntKind.i64.wrap (8 * a7)) + ((List.length xs10) : Int))) ≤ 65515))
 else
 ret false
 else
 if b8 = true then
 if (decide (((List.length xs10) : Int) = 0)) = false then
 if (decide ((Int.tmod ((List.length xs10) : Int) 8) ≠ 0)) = true then
 ret false
 else
 ret (decide ((IntKind.i64.wrap ((IntKind.i64.wrap (8 * a7)) + ((List.length xs10) : Int))) ≤ 65515))
 else
 ret false
 else
 ret (decide ((IntKind.i64.wrap ((IntKind.i64.wrap (8 * a7)) + ((List.length xs10) : Int))) ≤ 65515))
 else
 ret false
 else
 ret false
 else
 ret false
 else
 if (decide (a1 = 6)) = true then
 if (decide ((((ByteArray.size s2) : Nat) : Int) = 16)) = true then
 if (decide ((((ByteArray.size s3) : Nat) : Int) = 16)) = true then
 if (decide (a6 = 0)) = true then
 if (decide (a7 = 0)) = true then
 if (!b8) = true then
 ret (!b9)
 else
 ret false
 else
 ret false
 else
 ret false
 else
 ret false
 else
 ret false
 else
 ret false
 else
 ret false
 else
 ret false
def f44 (k : Nat) (a1 : Int) (s2 s3 : ByteArray) (a4 a5 a6 a7 : Int) (b8 b9 : Bool) (xs10 : List Int) := f44.step k some a1 s2 s3 a4 a5 a6 a7 b8 b9 xs10
def f44.w {R : Type} : Bool → (Res env → Option R) → Option R := fun t15 K => K ⟨.v (.c (.s (.bool t15))), [[]]⟩
theorem f44.wn (x : Bool) : ∃ res, ∀ {R : Type} (K : Res env → Option R), f44.w x K = K res := by
 exact ⟨_, fun _ => rfl⟩
def f44.hd (k : Nat) (ps_ : List (P2 env)) : Cl env :=
 gC Cl.no ps_ fun p_ ps_ => qG Cl.no p_ fun cs_ => dI Cl.no cs_ fun a1 cs_ => dS Cl.no cs_ fun s2 cs_ => dS Cl.no cs_ fun s3 cs_ => dI Cl.no cs_ fun a4 cs_ => dI Cl.no cs_ fun a5 cs_ => dI Cl.no cs_ fun a6 cs_ => dI Cl.no cs_ fun a7 cs_ => dB Cl.no cs_ fun b8 cs_ => dB Cl.no cs_ fun b9 cs_ => dM Cl.no 5 cs_ fun xs10 cs_ => gE Cl.no cs_ <| gE Cl.no ps_ <| { α := Bool, o := f44 k a1 s2 s3 a4 a5 a6 a7 b8 b9 xs10, w := f44.w, nat := fun x _ => f44.wn x }
def f44.e (k : Nat) : Entry env := ⟨fun ps => f44.hd k (coer [[.no, .no, .no, .no, .no, .no, .no, .no, .no, .rd 5]] ps), [], []⟩
def f44.X (k : Nat) : Ctx env := { X0 with C := lookE [(63, f63.e k)] }
theorem f44.nat {R : Type} (k : Nat) (g : _ → Option R) (a1 s2 s3 a4 a5 a6 a7 b8 b9 xs10) : f44.step k g a1 s2 s3 a4 a5 a6 a7 b8 b9 xs10 = (f44 k a1 s2 s3 a4 a5 a6 a7 b8 b9 xs10).bind g := by
 simp only [f44, f44.step, bind_ite, bind_sum, oA, oS, oN]
theorem f44.ev (k : Nat) (a1 : Int) (s2 s3 : ByteArray) (a4 a5 a6 a7 : Int) (b8 b9 : Bool) (xs10 : List Int) : evF (f44.X k) (bodyOf Try.f44) Try.f44.ntmps Try.f44.results.toList [.g [.s (.int .i64 a1), .s (.string s2), .s (.string s3), .s (.int .i64 a4), .s (.int .i64 a5), .s (.int .i64 a6), .s (.int .i64 a7), .s (.bool b8), .s (.bool b9), .sl 5 xs10]] = f44.step k (fun x => f44.w x some) a1 s2 s3 a4 a5 a6 a7 b8 b9 xs10 := by kernel_rfl
theorem f44.hok (k : Nat) : HOK (f44.X k) (bodyOf Try.f44) where
 l := allP_mem (by exact trivial)
 j := allP_mem (by exact trivial)
 q := allP_mem (by exact trivial)
theorem f44.sound0 (k : Nat) : SoundC env Try.prog 44 (f44.hd k) := by
 intro ps_
 show GoodC _ _ _ ps_ (f44.hd k ps_)
 unfold f44.hd
 have hF_ := fun_sound envOK (cs_sound _ (by exact ⟨⟨f63.sound k, f63.fnok⟩, trivial⟩)) (f44.hok k) Try.func44 rfl
 have hev_ := f44.ev k
 have hnat_ := fun g_ => f44.nat k (R := Res env) g_
 exact rdC
theorem f44.sound (k : Nat) : SoundC env Try.prog 44 (f44.e k).F := soundC_coer (f44.sound0 k) [[.no, .no, .no, .no, .no, .no, .no, .no, .no, .rd 5]]
theorem f44.fnok : FnOK Try.prog 44 := fn_ok Try.func44 (by kernel_rfl) rfl
def f102.step {R : Type} (k : Nat) (ret : (((List Int) × Bool) ⊕ (Bool)) → Option R) (a1 a2 : Int) : Option R :=
 if (decide (a2 = 10)) = true then
 if (decide (a1 = 4)) = true then
 ret (.inl (([11, 0] : List Int), true))
 else
 if (decide (a2 = 10)) = true then
 ret (.inl (([3, 0] : List Int), true))
 else
 if (decide (a2 = 5)) = true then
 if (decide (a1 = 4)) = true then
 ret (.inl (([3, 0] : List Int), true))
 else
 if (decide (a2 = 5)) = true then
 ret (.inl (([1, 0] : List Int), true))
 else
 if (decide (a2 = 11)) = true then
 if (decide (a1 = 4)) = true then
 ret (.inl (([3, 4] : List Int), true))
 else
 if (decide (a2 = 11)) = true then
 ret (.inl (([2, 0] : List Int), true))
 else
 ret (.inr false)
 else
 if (decide (a2 = 11)) = true then
 ret (.inl (([2, 0] : List Int), true))
 else
 ret (.inr false)
 else
 if (decide (a2 = 5)) = true then
 ret (.inl (([1, 0] : List Int), true))
 else
 if (decide (a2 = 11)) = true then
 if (decide (a1 = 4)) = true then
 ret (.inl (([3, 4] : List Int), true))
 else
 if (decide (a2 = 11)) = true then
 ret (.inl (([2, 0] : List Int), true))
 else
 ret (.inr false)
 else
 if (decide (a2 = 11)) = true then
 ret (.inl (([2, 0] : List Int), true))
 else
 ret (.inr false)
 else
 if (decide (a2 = 10)) = true then
 ret (.inl (([3, 0] : List Int), true))
 else
 if (decide (a2 = 5)) = true then
 if (decide (a1 = 4)) = true then
 ret (.inl (([3, 0] : List Int), true))
 else
 if (decide (a2 = 5)) = true then
 ret (.inl (([1, 0] : List Int), true))
 else
 if (decide (a2 = 11)) = true then
 if (decide (a1 = 4)) = true then
 ret (.inl (([3, 4] : List Int), true))
 else
 if (decide (a2 = 11)) = true then
 ret (.inl (([2, 0] : List Int), true))
 else
 ret (.inr false)
 else
 if (decide (a2 = 11)) = true then
 ret (.inl (([2, 0] : List Int), true))
 else
 ret (.inr false)
 else
 if (decide (a2 = 5)) = true then
 ret (.inl (([1, 0] : List Int), true))
 else
 if (decide (a2 = 11)) = true then
 if (decide (a1 = 4)) = true then
 ret (.inl (([3, 4] : List Int), true))
 else
 if (decide (a2 = 11)) = true then
 ret (.inl (([2, 0] : List Int), true))
 else
 ret (.inr false)
 else
 if (decide (a2 = 11)) = true then
 ret (.inl (([2, 0] : List Int), true))
 else
 ret (.inr false)
def f102 (k : Nat) (a1 a2 : Int) := f102.step k some a1 a2
def f102.w {R : Type} : (((List Int) × Bool) ⊕ (Bool)) → (Res env → Option R) → Option R := fun x K => Sum.elim (fun t3 => K ⟨.tup [.c (.own true 5 t3.1), .c (.s (.bool t3.2))], [[], []]⟩) (fun t4 => K ⟨.tup [.c (.s (.slice none 0 0)), .c (.s (.bool t4))], [[], []]⟩) x
theorem f102.wn (x : (((List Int) × Bool) ⊕ (Bool))) : ∃ res, ∀ {R : Type} (K : Res env → Option R), f102.w x K = K res := by
 rcases x with x | x <;> exact ⟨_, fun _ => rfl⟩
def f102.hd (k : Nat) (ps_ : List (P2 env)) : Cl env :=
 pI Cl.no ps_ fun a1 ps_ => pI Cl.no ps_ fun a2 ps_ => gE Cl.no ps_ <| { α := ((List Int) × Bool) ⊕ (Bool), o := f102 k a1 a2, w := f102.w, nat := fun x _ => f102.wn x }
def f102.e (k : Nat) : Entry env := ⟨f102.hd k, [], []⟩
def f102.X (k : Nat) : Ctx env := X0
theorem f102.nat {R : Type} (k : Nat) (g : _ → Option R) (a1 a2) : f102.step k g a1 a2 = (f102 k a1 a2).bind g := by
 simp only [f102, f102.step, bind_ite, bind_sum, oA, oS, oN]
theorem f102.ev (k : Nat) (a1 a2 : Int) : evF (f102.X k) (bodyOf Try.f102) Try.f102.ntmps Try.f102.results.toList [.v (.c (.s (.int .i64 a1))), .v (.c (.s (.int .i64 a2)))] = f102.step k (fun x => f102.w x some) a1 a2 := by kernel_rfl
theorem f102.hok (k : Nat) : HOK (f102.X k) (bodyOf Try.f102) where
 l := allP_mem (by exact trivial)
 j := allP_mem (by exact trivial)
 q := allP_mem (by exact trivial)
theorem f102.sound (k : Nat) : SoundC env Try.prog 102 ((f102.e k).F) := by
 intro ps_
 show GoodC _ _ _ ps_ (f102.hd k ps_)
 unfold f102.hd
 have hF_ := fun_sound envOK (cs_sound _ (by exact trivial)) (f102.hok k) Try.func102 rfl
 have hev_ := f102.ev k
 have hnat_ := fun g_ => f102.nat k (R := Res env) g_
 exact rdC
theorem f102.fnok : FnOK Try.prog 102 := fn_ok Try.func102 (by kernel_rfl) rfl
def f103.step {R : Type} (k : Nat) (ret : Int → Option R) (a1 : Int) : Option R :=
 if (decide (a1 = 4)) = true then
 ret 1
 else
 ret 58
def f103 (k : Nat) (a1 : Int) := f103.step k some a1
def f103.w {R : Type} : Int → (Res env → Option R) → Option R := fun t2 K => K ⟨.v (.c (.s (.int .i64 t2))), [[]]⟩
theorem f103.wn (x : Int) : ∃ res, ∀ {R : Type} (K : Res env → Option R), f103.w x K = K res := by
 exact ⟨_, fun _ => rfl⟩
def f103.hd (k : Nat) (ps_ : List (P2 env)) : Cl env :=
 pI Cl.no ps_ fun a1 ps_ => gE Cl.no ps_ <| { α := Int, o := f103 k a1, w := f103.w, nat := fun x _ => f103.wn x }
def f103.e (k : Nat) : Entry env := ⟨f103.hd k, [], []⟩
def f103.X (k : Nat) : Ctx env := X0
theorem f103.nat {R : Type} (k : Nat) (g : _ → Option R) (a1) : f103.step k g a1 = (f103 k a1).bind g := by
 simp only [f103, f103.step, bind_ite, bind_sum, oA, oS, oN]
theorem f103.ev (k : Nat) (a1 : Int) : evF (f103.X k) (bodyOf Try.f103) Try.f103.ntmps Try.f103.results.toList [.v (.c (.s (.int .i64 a1)))] = f103.step k (fun x => f103.w x some) a1 := by kernel_rfl
theorem f103.hok (k : Nat) : HOK (f103.X k) (bodyOf Try.f103) where
 l := allP_mem (by exact trivial)
 j := allP_mem (by exact trivial)
 q := allP_mem (by exact trivial)
theorem f103.sound (k : Nat) : SoundC env Try.prog 103 ((f103.e k).F) := by
 intro ps_
 show GoodC _ _ _ ps_ (f103.hd k ps_)
 unfold f103.hd
 have hF_ := fun_sound envOK (cs_sound _ (by exact trivial)) (f103.hok k) Try.func103 rfl
 have hev_ := f103.ev k
 have hnat_ := fun g_ => f103.nat k (R := Res env) g_
 exact rdC
theorem f103.fnok : FnOK Try.prog 103 := fn_ok Try.func103 (by kernel_rfl) rfl
def f106.step {R : Type} (k : Nat) (ret : Int → Option R) (s1 : ByteArray) : Option R :=
 if (decide ((((ByteArray.size s1) : Nat) : Int) = 4)) = true then
 ret 4
 else
 ret 6
def f106 (k : Nat) (s1 : ByteArray) := f106.step k some s1
def f106.w {R : Type} : Int → (Res env → Option R) → Option R := fun t2 K => K ⟨.v (.c (.s (.int .i64 t2))), [[]]⟩
theorem f106.wn (x : Int) : ∃ res, ∀ {R : Type} (K : Res env → Option R), f106.w x K = K res := by
 exact ⟨_, fun _ => rfl⟩
def f106.hd (k : Nat) (ps_ : List (P2 env)) : Cl env :=
 pS Cl.no ps_ fun s1 ps_ => gE Cl.no ps_ <| { α := Int, o := f106 k s1, w := f106.w, nat := fun x _ => f106.wn x }
def f106.e (k : Nat) : Entry env := ⟨f106.hd k, [], []⟩
def f106.X (k : Nat) : Ctx env := X0
theorem f106.nat {R : Type} (k : Nat) (g : _ → Option R) (s1) : f106.step k g s1 = (f106 k s1).bind g := by
 simp only [f106, f106.step, bind_ite, bind_sum, oA, oS, oN]
theorem f106.ev (k : Nat) (s1 : ByteArray) : evF (f106.X k) (bodyOf Try.f106) Try.f106.ntmps Try.f106.results.toList [.v (.c (.s (.string s1)))] = f106.step k (fun x => f106.w x some) s1 := by kernel_rfl
theorem f106.hok (k : Nat) : HOK (f106.X k) (bodyOf Try.f106) where
 l := allP_mem (by exact trivial)
 j := allP_mem (by exact trivial)
 q := allP_mem (by exact trivial)
theorem f106.sound (k : Nat) : SoundC env Try.prog 106 ((f106.e k).F) := by
 intro ps_
 show GoodC _ _ _ ps_ (f106.hd k ps_)
 unfold f106.hd
 have hF_ := fun_sound envOK (cs_sound _ (by exact trivial)) (f106.hok k) Try.func106 rfl
 have hev_ := f106.ev k
 have hnat_ := fun g_ => f106.nat k (R := Res env) g_
 exact rdC
theorem f106.fnok : FnOK Try.prog 106 := fn_ok Try.func106 (by kernel_rfl) rfl
def f105.step {R : Type} (k : Nat) (ret : Bool → Option R) (s1 : ByteArray) (x2 : S35) : Option R :=
 (f106 k s1).bind fun t3 => ret (decide (t3 = x2.f0))
def f105 (k : Nat) (s1 : ByteArray) (x2 : S35) := f105.step k some s1 x2
def f105.w {R : Type} : Bool → (Res env → Option R) → Option R := fun t4 K => K ⟨.v (.c (.s (.bool t4))), [[], []]⟩
theorem f105.wn (x : Bool) : ∃ res, ∀ {R : Type} (K : Res env → Option R), f105.w x K = K res := by
 exact ⟨_, fun _ => rfl⟩
def f105.hd (k : Nat) (ps_ : List (P2 env)) : Cl env :=
 pS Cl.no ps_ fun s1 ps_ => gC Cl.no ps_ fun p_ ps_ => qRo Cl.no 35 p_ fun x2 => gE Cl.no ps_ <| { α := Bool, o := f105 k s1 x2, w := f105.w, nat := fun x _ => f105.wn x }
def f105.e (k : Nat) : Entry env := ⟨f105.hd k, [], [35]⟩
def f105.X (k : Nat) : Ctx env := { X0 with C := lookE [(106, f106.e k)] }
theorem f105.nat {R : Type} (k : Nat) (g : _ → Option R) (s1 x2) : f105.step k g s1 x2 = (f105 k s1 x2).bind g := by
 simp only [f105, f105.step, bind_ite, bind_sum, oA, oS, oN]
theorem f105.ev (k : Nat) (s1 : ByteArray) (x2 : S35) : evF (f105.X k) (bodyOf Try.f105) Try.f105.ntmps Try.f105.results.toList [.v (.c (.s (.string s1))), .v (.ro 35 x2)] = f105.step k (fun x => f105.w x some) s1 x2 := by kernel_rfl
theorem f105.hok (k : Nat) : HOK (f105.X k) (bodyOf Try.f105) where
 l := allP_mem (by exact trivial)
 j := allP_mem (by exact trivial)
 q := allP_mem (by exact trivial)
theorem f105.sound (k : Nat) : SoundC env Try.prog 105 ((f105.e k).F) := by
 intro ps_
 show GoodC _ _ _ ps_ (f105.hd k ps_)
 unfold f105.hd
 have hF_ := fun_sound envOK (cs_sound _ (by exact ⟨⟨f106.sound k, f106.fnok⟩, trivial⟩)) (f105.hok k) Try.func105 rfl
 have hev_ := f105.ev k
 have hnat_ := fun g_ => f105.nat k (R := Res env) g_
 exact rdC
theorem f105.fnok : FnOK Try.prog 105 := fn_ok Try.func105 (by kernel_rfl) rfl
def f104.l2.step {R : Type} (k : Nat) (rec_ : (List ByteArray) → S35 → Int → Int → Option R) (ret : (Int ⊕ (Unit)) → Option R) (xs3 : List ByteArray) (x4 : S35) (a5 a6 : Int) : Option R :=
 if (decide (a6 < a5)) = true then
 if 0 ≤ a6 then
 if a6 < ((List.length xs3 : Nat) : Int) then
 (f105 k (List.getD xs3 (Int.toNat a6) ByteArray.empty) x4).bind fun t7 => if t7 = true then
 ret (.inl a6)
 else
 rec_ xs3 x4 a5 (IntKind.i64.wrap (a6 + 1))
 else none
 else none
 else
 ret (.inr ())
def f104.l2 (k : Nat) : Nat → (List ByteArray) → S35 → Int → Int → Option (Int ⊕ (Unit))
 | 0, _, _, _, _ => none
 | j + 1, xs3, x4, a5, a6 => f104.l2.step k (fun xs3 x4 a5 a6 => f104.l2 k j xs3 x4 a5 a6) some xs3 x4 a5 a6
def f104.l2.w {R : Type} : (Int ⊕ (Unit)) → (Exit → St env → Option R) → Option R := fun x K => Sum.elim (fun t10 => K .ret ⟨fullT [4] 0 19 [.v (.c (.s (.int .i64 t10)))], [], 274⟩) (fun t11 => K (.exit 0) ⟨fullT [] 0 19 [], [], 274⟩) x
def f104.l2.st (xs3 : List ByteArray) (x4 : S35) (a5 a6 : Int) : St env := ⟨fullT [0, 1, 7, 8] 0 19 [.v (.c (.imm 9 xs3)), .v (.c (.fnp 105 [⟨35, x4⟩])), .v (.c (.s (.int .i64 a5))), .v (.c (.s (.int .i64 a6)))], [], 66⟩
def f104.l2.hd (k : Nat) (ts_ : List (AV env)) (mm_ : Mem env) (n_ : Nat) : LCl env :=
 gTs Ln [0, 1, 7, 8] 19 ts_ fun l_ => tM Ln 9 l_ fun xs3 l_ => gV Ln l_ fun a_ l_ => rFnp Ln 105 a_ fun sg_ => sigL Ln 35 sg_ fun x4 sg_ => gE Ln sg_ <| tI Ln l_ fun a5 l_ => tI Ln l_ fun a6 l_ => gE Ln l_ <| gE Ln mm_ <| gN Ln 66 n_ { α := Int ⊕ (Unit), o := f104.l2 k k xs3 x4 a5 a6, w := f104.l2.w }
def f104.step {R : Type} (k : Nat) (ret : Int → Option R) (xs1 : List ByteArray) (x2 : S35) : Option R :=
 (f104.l2 k k xs1 x2 ((List.length xs1) : Int) 0).bind (Sum.elim (fun t8 => ret t8) (fun t9 => ret (-1 : Int)))
def f104 (k : Nat) (xs1 : List ByteArray) (x2 : S35) := f104.step k some xs1 x2
def f104.w {R : Type} : Int → (Res env → Option R) → Option R := fun t12 K => K ⟨.v (.c (.s (.int .i64 t12))), [[], []]⟩
theorem f104.wn (x : Int) : ∃ res, ∀ {R : Type} (K : Res env → Option R), f104.w x K = K res := by
 exact ⟨_, fun _ => rfl⟩
def f104.hd (k : Nat) (ps_ : List (P2 env)) : Cl env :=
 pM Cl.no 9 ps_ fun xs1 ps_ => gC Cl.no ps_ fun p_ ps_ => qFn Cl.no 105 p_ fun sg_ => sigL Cl.no 35 sg_ fun x2 sg_ => gE Cl.no sg_ <| gE Cl.no ps_ <| { α := Int, o := f104 k xs1 x2, w := f104.w, nat := fun x _ => f104.wn x }
def f104.e (k : Nat) : Entry env := ⟨fun ps => f104.hd k (coer [[.rd 9], []] ps), [], []⟩
def f104.X (k : Nat) : Ctx env := { X0 with C := lookE [(105, f105.e k)], L := lookE [(2, fun S => f104.l2.hd k S.ts S.m S.n)], keep := lookD [(2, [0, 1, 7, 8])], keepX := lookD [(2, [4])], span := lookN [(2, 208)] }
theorem f104.l2.nat {R : Type} (k : Nat) (rec_) (g : _ → Option R) (xs3 x4 a5 a6) : (f104.l2.step k rec_ some xs3 x4 a5 a6).bind g = f104.l2.step k (fun xs3 x4 a5 a6 => (rec_ xs3 x4 a5 a6).bind g) g xs3 x4 a5 a6 := by
 simp only [f104.l2.step, bind_ite, bind_sum, oA, oS, oN]
theorem f104.l2.good (k : Nat) (xs3 x4 a5 a6) : GoodL (f104.X k) (nthC 0 (loopsOf (bodyOf Try.f104))) (f104.l2.st xs3 x4 a5 a6) { α := _, o := f104.l2 k k xs3 x4 a5 a6, w := f104.l2.w } :=
 loop_good (ι := (List ByteArray) × S35 × Int × Int) (α := (Int ⊕ (Unit))) (fun i => f104.l2.st i.1 i.2.1 i.2.2.1 i.2.2.2) (fun j i => f104.l2 k j i.1 i.2.1 i.2.2.1 i.2.2.2) f104.l2.w (fun rec_ ret i => f104.l2.step k (fun xs3 x4 a5 a6 => rec_ (xs3, x4, a5, a6)) ret i.1 i.2.1 i.2.2.1 i.2.2.2)
  (fun _ => rfl) (fun _ _ => rfl) (fun rec_ g i => f104.l2.nat k _ g i.1 i.2.1 i.2.2.1 i.2.2.2) (fun {R} i0 i rec_ K => by kernel_rfl) k (xs3, x4, a5, a6)
theorem f104.l2.all (k : Nat) (S : St env) : GoodL (f104.X k) (nthC 0 (loopsOf (bodyOf Try.f104))) S (f104.l2.hd k S.ts S.m S.n) := by
 obtain ⟨ts_, m_, n_⟩ := S
 show GoodL _ _ _ (f104.l2.hd k ts_ m_ n_)
 unfold f104.l2.hd
 have hg_ := f104.l2.good k
 exact rdL
theorem f104.nat {R : Type} (k : Nat) (g : _ → Option R) (xs1 x2) : f104.step k g xs1 x2 = (f104 k xs1 x2).bind g := by
 simp only [f104, f104.step, bind_ite, bind_sum, oA, oS, oN]
theorem f104.ev (k : Nat) (xs1 : List ByteArray) (x2 : S35) : evF (f104.X k) (bodyOf Try.f104) Try.f104.ntmps Try.f104.results.toList [.v (.c (.sl 9 xs1)), .v (.fn 105 [⟨35, x2⟩])] = f104.step k (fun x => f104.w x some) xs1 x2 := by kernel_rfl
theorem f104.hok (k : Nat) : HOK (f104.X k) (bodyOf Try.f104) where
 l := allP_mem (by exact ⟨ls_of (h0 := fun S => f104.l2.hd k S.ts S.m S.n) (by kernel_rfl) (f104.l2.all k), trivial⟩)
 j := allP_mem (by exact trivial)
 q := allP_mem (by exact trivial)
theorem f104.sound0 (k : Nat) : SoundC env Try.prog 104 (f104.hd k) := by
 intro ps_
 show GoodC _ _ _ ps_ (f104.hd k ps_)
 unfold f104.hd
 have hF_ := fun_sound envOK (cs_sound _ (by exact ⟨⟨f105.sound k, f105.fnok⟩, trivial⟩)) (f104.hok k) Try.func104 rfl
 have hev_ := f104.ev k
 have hnat_ := fun g_ => f104.nat k (R := Res env) g_
 exact rdC
theorem f104.sound (k : Nat) : SoundC env Try.prog 104 (f104.e k).F := soundC_coer (f104.sound0 k) [[.rd 9], []]
theorem f104.fnok : FnOK Try.prog 104 := fn_ok Try.func104 (by kernel_rfl) rfl
def f107.step {R : Type} (k : Nat) (ret : ((List Int)) → Option R) (a1 : Int) : Option R :=
 ret ([(IntKind.u8.wrap (Int.fdiv a1 (2 ^ (min (8 : Int).toNat IntKind.i64.bits)))), (IntKind.u8.wrap a1)] : List Int)
def f107 (k : Nat) (a1 : Int) := f107.step k some a1
def f107.w {R : Type} : ((List Int)) → (Res env → Option R) → Option R := fun t2 K => K ⟨.v (.c (.own true 5 t2)), [[]]⟩
theorem f107.wn (x : ((List Int))) : ∃ res, ∀ {R : Type} (K : Res env → Option R), f107.w x K = K res := by
 exact ⟨_, fun _ => rfl⟩
def f107.hd (k : Nat) (ps_ : List (P2 env)) : Cl env :=
 pI Cl.no ps_ fun a1 ps_ => gE Cl.no ps_ <| { α := (List Int), o := f107 k a1, w := f107.w, nat := fun x _ => f107.wn x }
def f107.e (k : Nat) : Entry env := ⟨f107.hd k, [], []⟩
def f107.X (k : Nat) : Ctx env := X0
theorem f107.nat {R : Type} (k : Nat) (g : _ → Option R) (a1) : f107.step k g a1 = (f107 k a1).bind g := by
 simp only [f107, f107.step, bind_ite, bind_sum, oA, oS, oN]
theorem f107.ev (k : Nat) (a1 : Int) : evF (f107.X k) (bodyOf Try.f107) Try.f107.ntmps Try.f107.results.toList [.v (.c (.s (.int .i64 a1)))] = f107.step k (fun x => f107.w x some) a1 := by kernel_rfl
theorem f107.hok (k : Nat) : HOK (f107.X k) (bodyOf Try.f107) where
 l := allP_mem (by exact trivial)
 j := allP_mem (by exact trivial)
 q := allP_mem (by exact trivial)
theorem f107.sound (k : Nat) : SoundC env Try.prog 107 ((f107.e k).F) := by
 intro ps_
 show GoodC _ _ _ ps_ (f107.hd k ps_)
 unfold f107.hd
 have hF_ := fun_sound envOK (cs_sound _ (by exact trivial)) (f107.hok k) Try.func107 rfl
 have hev_ := f107.ev k
 have hnat_ := fun g_ => f107.nat k (R := Res env) g_
 exact rdC
theorem f107.fnok : FnOK Try.prog 107 := fn_ok Try.func107 (by kernel_rfl) rfl
def f173.l3.step {R : Type} (k : Nat) (rec_ : (List Int) → Int → Int → Option R) (ret : Int → Option R) (xs2 : List Int) (a3 a4 : Int) : Option R :=
 if (decide (a4 < ((List.length xs2) : Int))) = true then
 if 0 ≤ a4 then
 if a4 < ((List.length xs2 : Nat) : Int) then
 if (decide ((IntKind.i64.wrap (a4 + 1)) < ((List.length xs2) : Int))) = true then
 if 0 ≤ (IntKind.i64.wrap (a4 + 1)) then
 if (IntKind.i64.wrap (a4 + 1)) < ((List.length xs2 : Nat) : Int) then
 rec_ xs2 (IntKind.i64.wrap ((IntKind.i64.wrap (a3 + (IntKind.i64.wrap ((IntKind.i64.wrap (List.getD xs2 (Int.toNat a4) 0)) * (2 ^ (min (8 : Int).toNat IntKind.i64.bits)))))) + (IntKind.i64.wrap (List.getD xs2 (Int.toNat (IntKind.i64.wrap (a4 + 1))) 0)))) (IntKind.i64.wrap (a4 + 2))
 else none
 else none
 else
 rec_ xs2 (IntKind.i64.wrap (a3 + (IntKind.i64.wrap ((IntKind.i64.wrap (List.getD xs2 (Int.toNat a4) 0)) * (2 ^ (min (8 : Int).toNat IntKind.i64.bits)))))) (IntKind.i64.wrap (a4 + 2))
 else none
 else none
 else
 ret a3
def f173.l3 (k : Nat) : Nat → (List Int) → Int → Int → Option Int
 | 0, _, _, _ => none
 | j + 1, xs2, a3, a4 => f173.l3.step k (fun xs2 a3 a4 => f173.l3 k j xs2 a3 a4) some xs2 a3 a4
def f173.l3.w {R : Type} : Int → (Exit → St env → Option R) → Option R := fun t8 K => K (.exit 0) ⟨fullT [3] 0 40 [.v (.c (.s (.int .i64 t8)))], [], 529⟩
def f173.l3.st (xs2 : List Int) (a3 a4 : Int) : St env := ⟨fullT [0, 3, 4] 0 40 [.v (.c (.imm 5 xs2)), .v (.c (.s (.int .i64 a3))), .v (.c (.s (.int .i64 a4)))], [], 49⟩
def f173.l8.step {R : Type} (k : Nat) (rec_ : Int → Option R) (ret : Int → Option R) (a6 : Int) : Option R :=
 if (decide (a6 > 65535)) = true then
 rec_ (IntKind.i64.wrap ((bitsV .and .i64 a6 65535) + (Int.fdiv a6 (2 ^ (min (16 : Int).toNat IntKind.i64.bits)))))
 else
 ret a6
def f173.l8 (k : Nat) : Nat → Int → Option Int
 | 0, _ => none
 | j + 1, a6 => f173.l8.step k (fun a6 => f173.l8 k j a6) some a6
def f173.l8.w {R : Type} : Int → (Exit → St env → Option R) → Option R := fun t9 K => K (.exit 2) ⟨fullT [3] 0 40 [.v (.c (.s (.int .i64 t9)))], [], 657⟩
def f173.l8.st (a6 : Int) : St env := ⟨fullT [3] 0 40 [.v (.c (.s (.int .i64 a6)))], [], 529⟩
def f173.l3.hd (k : Nat) (ts_ : List (AV env)) (mm_ : Mem env) (n_ : Nat) : LCl env :=
 gTs Ln [0, 3, 4] 40 ts_ fun l_ => tM Ln 5 l_ fun xs2 l_ => tI Ln l_ fun a3 l_ => tI Ln l_ fun a4 l_ => gE Ln l_ <| gE Ln mm_ <| gN Ln 49 n_ { α := Int, o := f173.l3 k k xs2 a3 a4, w := f173.l3.w }
def f173.l8.hd (k : Nat) (ts_ : List (AV env)) (mm_ : Mem env) (n_ : Nat) : LCl env :=
 gTs Ln [3] 40 ts_ fun l_ => tI Ln l_ fun a6 l_ => gE Ln l_ <| gE Ln mm_ <| gN Ln 529 n_ { α := Int, o := f173.l8 k k a6, w := f173.l8.w }
def f173.step {R : Type} (k : Nat) (ret : Int → Option R) (xs1 : List Int) : Option R :=
 (f173.l3 k k xs1 0 0).bind fun t5 => (f173.l8 k k t5).bind fun t7 => ret t7
def f173 (k : Nat) (xs1 : List Int) := f173.step k some xs1
def f173.w {R : Type} : Int → (Res env → Option R) → Option R := fun t10 K => K ⟨.v (.c (.s (.int .i64 t10))), [[]]⟩
theorem f173.wn (x : Int) : ∃ res, ∀ {R : Type} (K : Res env → Option R), f173.w x K = K res := by
 exact ⟨_, fun _ => rfl⟩
def f173.hd (k : Nat) (ps_ : List (P2 env)) : Cl env :=
 pM Cl.no 5 ps_ fun xs1 ps_ => gE Cl.no ps_ <| { α := Int, o := f173 k xs1, w := f173.w, nat := fun x _ => f173.wn x }
def f173.e (k : Nat) : Entry env := ⟨fun ps => f173.hd k (coer [[.rd 5]] ps), [], []⟩
def f173.X (k : Nat) : Ctx env := { X0 with L := lookE [(3, fun S => f173.l3.hd k S.ts S.m S.n), (8, fun S => f173.l8.hd k S.ts S.m S.n)], keep := lookD [(3, [0, 3, 4]), (8, [3])], keepX := lookD [(3, [3]), (8, [3])], span := lookN [(3, 480), (8, 128)] }
theorem f173.l3.nat {R : Type} (k : Nat) (rec_) (g : _ → Option R) (xs2 a3 a4) : (f173.l3.step k rec_ some xs2 a3 a4).bind g = f173.l3.step k (fun xs2 a3 a4 => (rec_ xs2 a3 a4).bind g) g xs2 a3 a4 := by
 simp only [f173.l3.step, bind_ite, bind_sum, oA, oS, oN]
theorem f173.l3.good (k : Nat) (xs2 a3 a4) : GoodL (f173.X k) (nthC 0 (loopsOf (bodyOf Try.f173))) (f173.l3.st xs2 a3 a4) { α := _, o := f173.l3 k k xs2 a3 a4, w := f173.l3.w } :=
 loop_good (ι := (List Int) × Int × Int) (α := Int) (fun i => f173.l3.st i.1 i.2.1 i.2.2) (fun j i => f173.l3 k j i.1 i.2.1 i.2.2) f173.l3.w (fun rec_ ret i => f173.l3.step k (fun xs2 a3 a4 => rec_ (xs2, a3, a4)) ret i.1 i.2.1 i.2.2)
  (fun _ => rfl) (fun _ _ => rfl) (fun rec_ g i => f173.l3.nat k _ g i.1 i.2.1 i.2.2) (fun {R} i0 i rec_ K => by kernel_rfl) k (xs2, a3, a4)
theorem f173.l3.all (k : Nat) (S : St env) : GoodL (f173.X k) (nthC 0 (loopsOf (bodyOf Try.f173))) S (f173.l3.hd k S.ts S.m S.n) := by
 obtain ⟨ts_, m_, n_⟩ := S
 show GoodL _ _ _ (f173.l3.hd k ts_ m_ n_)
 unfold f173.l3.hd
 have hg_ := f173.l3.good k
 exact rdL
theorem f173.l8.nat {R : Type} (k : Nat) (rec_) (g : _ → Option R) (a6) : (f173.l8.step k rec_ some a6).bind g = f173.l8.step k (fun a6 => (rec_ a6).bind g) g a6 := by
 simp only [f173.l8.step, bind_ite, bind_sum, oA, oS, oN]
theorem f173.l8.good (k : Nat) (a6) : GoodL (f173.X k) (nthC 1 (loopsOf (bodyOf Try.f173))) (f173.l8.st a6) { α := _, o := f173.l8 k k a6, w := f173.l8.w } :=
 loop_good (ι := Int) (α := Int) (fun i => f173.l8.st i) (fun j i => f173.l8 k j i) f173.l8.w (fun rec_ ret i => f173.l8.step k (fun a6 => rec_ a6) ret i)
  (fun _ => rfl) (fun _ _ => rfl) (fun rec_ g i => f173.l8.nat k _ g i) (fun {R} i0 i rec_ K => by kernel_rfl) k a6
theorem f173.l8.all (k : Nat) (S : St env) : GoodL (f173.X k) (nthC 1 (loopsOf (bodyOf Try.f173))) S (f173.l8.hd k S.ts S.m S.n) := by
 obtain ⟨ts_, m_, n_⟩ := S
 show GoodL _ _ _ (f173.l8.hd k ts_ m_ n_)
 unfold f173.l8.hd
 have hg_ := f173.l8.good k
 exact rdL
theorem f173.nat {R : Type} (k : Nat) (g : _ → Option R) (xs1) : f173.step k g xs1 = (f173 k xs1).bind g := by
 simp only [f173, f173.step, bind_ite, bind_sum, oA, oS, oN]
theorem f173.ev (k : Nat) (xs1 : List Int) : evF (f173.X k) (bodyOf Try.f173) Try.f173.ntmps Try.f173.results.toList [.v (.c (.sl 5 xs1))] = f173.step k (fun x => f173.w x some) xs1 := by kernel_rfl
theorem f173.hok (k : Nat) : HOK (f173.X k) (bodyOf Try.f173) where
 l := allP_mem (by exact ⟨ls_of (h0 := fun S => f173.l3.hd k S.ts S.m S.n) (by kernel_rfl) (f173.l3.all k), ls_of (h0 := fun S => f173.l8.hd k S.ts S.m S.n) (by kernel_rfl) (f173.l8.all k), trivial⟩)
 j := allP_mem (by exact trivial)
 q := allP_mem (by exact trivial)
theorem f173.sound0 (k : Nat) : SoundC env Try.prog 173 (f173.hd k) := by
 intro ps_
 show GoodC _ _ _ ps_ (f173.hd k ps_)
 unfold f173.hd
 have hF_ := fun_sound envOK (cs_sound _ (by exact trivial)) (f173.hok k) Try.func173 rfl
 have hev_ := f173.ev k
 have hnat_ := fun g_ => f173.nat k (R := Res env) g_
 exact rdC
theorem f173.sound (k : Nat) : SoundC env Try.prog 173 (f173.e k).F := soundC_coer (f173.sound0 k) [[.rd 5]]
theorem f173.fnok : FnOK Try.prog 173 := fn_ok Try.func173 (by kernel_rfl) rfl
def f114.step {R : Type} (k : Nat) (ret : Int → Option R) (xs1 : List Int) : Option R :=
 (f173 k xs1).bind fun t2 => ret (IntKind.i64.wrap (65535 - t2))
def f114 (k : Nat) (xs1 : List Int) := f114.step k some xs1
def f114.w {R : Type} : Int → (Res env → Option R) → Option R := fun t3 K => K ⟨.v (.c (.s (.int .i64 t3))), [[]]⟩
theorem f114.wn (x : Int) : ∃ res, ∀ {R : Type} (K : Res env → Option R), f114.w x K = K res := by
 exact ⟨_, fun _ => rfl⟩
def f114.hd (k : Nat) (ps_ : List (P2 env)) : Cl env :=
 pM Cl.no 5 ps_ fun xs1 ps_ => gE Cl.no ps_ <| { α := Int, o := f114 k xs1, w := f114.w, nat := fun x _ => f114.wn x }
def f114.e (k : Nat) : Entry env := ⟨fun ps => f114.hd k (coer [[.rd 5]] ps), [], []⟩
def f114.X (k : Nat) : Ctx env := { X0 with C := lookE [(173, f173.e k)] }
theorem f114.nat {R : Type} (k : Nat) (g : _ → Option R) (xs1) : f114.step k g xs1 = (f114 k xs1).bind g := by
 simp only [f114, f114.step, bind_ite, bind_sum, oA, oS, oN]
theorem f114.ev (k : Nat) (xs1 : List Int) : evF (f114.X k) (bodyOf Try.f114) Try.f114.ntmps Try.f114.results.toList [.v (.c (.sl 5 xs1))] = f114.step k (fun x => f114.w x some) xs1 := by kernel_rfl
theorem f114.hok (k : Nat) : HOK (f114.X k) (bodyOf Try.f114) where
 l := allP_mem (by exact trivial)
 j := allP_mem (by exact trivial)
 q := allP_mem (by exact trivial)
theorem f114.sound0 (k : Nat) : SoundC env Try.prog 114 (f114.hd k) := by
 intro ps_
 show GoodC _ _ _ ps_ (f114.hd k ps_)
 unfold f114.hd
 have hF_ := fun_sound envOK (cs_sound _ (by exact ⟨⟨f173.sound k, f173.fnok⟩, trivial⟩)) (f114.hok k) Try.func114 rfl
 have hev_ := f114.ev k
 have hnat_ := fun g_ => f114.nat k (R := Res env) g_
 exact rdC
theorem f114.sound (k : Nat) : SoundC env Try.prog 114 (f114.e k).F := soundC_coer (f114.sound0 k) [[.rd 5]]
theorem f114.fnok : FnOK Try.prog 114 := fn_ok Try.func114 (by kernel_rfl) rfl
def f108.step {R : Type} (k : Nat) (ret : ((List Int)) → Option R) (a1 : Int) (s2 s3 : ByteArray) (a4 a5 a6 a7 : Int) (b8 b9 : Bool) (xs10 : List Int) : Option R :=
 if (decide (a1 = 6)) = true then
 (f107 k ((List.length xs10) : Int)).bind fun t11 => if (List.length ([96, 0, 0, 0] : List Int) + List.length t11) * 1 ≤ maxN then
 if (List.length (([96, 0, 0, 0] : List Int) ++ t11) + List.length ([(IntKind.u8.wrap a5), (IntKind.u8.wrap a4)] : List Int)) * 1 ≤ maxN then
 if List.length ((([96, 0, 0, 0] : List Int) ++ t11) ++ ([(IntKind.u8.wrap a5), (IntKind.u8.wrap a4)] : List Int)) + List.length (bytesOf s2) ≤ maxN then
 if List.length (((([96, 0, 0, 0] : List Int) ++ t11) ++ ([(IntKind.u8.wrap a5), (IntKind.u8.wrap a4)] : List Int)) ++ (bytesOf s2)) + List.length (bytesOf s3) ≤ maxN then
 if (List.length ((((([96, 0, 0, 0] : List Int) ++ t11) ++ ([(IntKind.u8.wrap a5), (IntKind.u8.wrap a4)] : List Int)) ++ (bytesOf s2)) ++ (bytesOf s3)) + List.length xs10) * 1 ≤ maxN then
 ret (((((([96, 0, 0, 0] : List Int) ++ t11) ++ ([(IntKind.u8.wrap a5), (IntKind.u8.wrap a4)] : List Int)) ++ (bytesOf s2)) ++ (bytesOf s3)) ++ xs10)
 else none
 else none
 else none
 else none
 else none
 else
 if b9 = true then
 if b8 = true then
 (f107 k (IntKind.i64.wrap (20 + ((List.length xs10) : Int)))).bind fun t12 => if (List.length ([69, 0] : List Int) + List.length t12) * 1 ≤ maxN then
 (f107 k a6).bind fun t13 => if (List.length (([69, 0] : List Int) ++ t12) + List.length t13) * 1 ≤ maxN then
 (f107 k (IntKind.i64.wrap ((IntKind.i64.wrap (a7 + 16384)) + 8192))).bind fun t14 => if (List.length ((([69, 0] : List Int) ++ t12) ++ t13) + List.length t14) * 1 ≤ maxN then
 if (List.length (((([69, 0] : List Int) ++ t12) ++ t13) ++ t14) + List.length ([(IntKind.u8.wrap a4), (IntKind.u8.wrap a5), 0, 0] : List Int)) * 1 ≤ maxN then
 if List.length ((((([69, 0] : List Int) ++ t12) ++ t13) ++ t14) ++ ([(IntKind.u8.wrap a4), (IntKind.u8.wrap a5), 0, 0] : List Int)) + List.length (bytesOf s2) ≤ maxN then
 if List.length (((((([69, 0] : List Int) ++ t12) ++ t13) ++ t14) ++ ([(IntKind.u8.wrap a4), (IntKind.u8.wrap a5), 0, 0] : List Int)) ++ (bytesOf s2)) + List.length (bytesOf s3) ≤ maxN then
 if 10 ≤ ((List.length ((((((([69, 0] : List Int) ++ t12) ++ t13) ++ t14) ++ ([(IntKind.u8.wrap a4), (IntKind.u8.wrap a5), 0, 0] : List Int)) ++ (bytesOf s2)) ++ (bytesOf s3)) : Nat) : Int) then
 if ((List.length ((((((([69, 0] : List Int) ++ t12) ++ t13) ++ t14) ++ ([(IntKind.u8.wrap a4), (IntKind.u8.wrap a5), 0, 0] : List Int)) ++ (bytesOf s2)) ++ (bytesOf s3)) : Nat) : Int) ≤ ((List.length ((((((([69, 0] : List Int) ++ t12) ++ t13) ++ t14) ++ ([(IntKind.u8.wrap a4), (IntKind.u8.wrap a5), 0, 0] : List Int)) ++ (bytesOf s2)) ++ (bytesOf s3)) : Nat) : Int) then
 (f114 k ((((((([69, 0] : List Int) ++ t12) ++ t13) ++ t14) ++ ([(IntKind.u8.wrap a4), (IntKind.u8.wrap a5), 0, 0] : List Int)) ++ (bytesOf s2)) ++ (bytesOf s3))).bind fun t15 => (f107 k t15).bind fun t16 => if (List.length (copyL ((((((([69, 0] : List Int) ++ t12) ++ t13) ++ t14) ++ ([(IntKind.u8.wrap a4), (IntKind.u8.wrap a5), 0, 0] : List Int)) ++ (bytesOf s2)) ++ (bytesOf s3)) 10 ((Int.toNat ((List.length ((((((([69, 0] : List Int) ++ t12) ++ t13) ++ t14) ++ ([(IntKind.u8.wrap a4), (IntKind.u8.wrap a5), 0, 0] : List Int)) ++ (bytesOf s2)) ++ (bytesOf s3)) : Nat) : Int)) - 10) t16) + List.length xs10) * 1 ≤ maxN then
 ret ((copyL ((((((([69, 0] : List Int) ++ t12) ++ t13) ++ t14) ++ ([(IntKind.u8.wrap a4), (IntKind.u8.wrap a5), 0, 0] : List Int)) ++ (bytesOf s2)) ++ (bytesOf s3)) 10 ((Int.toNat ((List.length ((((((([69, 0] : List Int) ++ t12) ++ t13) ++ t14) ++ ([(IntKind.u8.wrap a4), (IntKind.u8.wrap a5), 0, 0] : List Int)) ++ (bytesOf s2)) ++ (bytesOf s3)) : Nat) : Int)) - 10) t16) ++ xs10)
 else none
 else none
 else none
 else none
 else none
 else none
 else none
 else none
 else none
 else
 (f107 k (IntKind.i64.wrap (20 + ((List.length xs10) : Int)))).bind fun t17 => if (List.length ([69, 0] : List Int) + List.length t17) * 1 ≤ maxN then
 (f107 k a6).bind fun t18 => if (List.length (([69, 0] : List Int) ++ t17) + List.length t18) * 1 ≤ maxN then
 (f107 k (IntKind.i64.wrap (a7 + 16384))).bind fun t19 => if (List.length ((([69, 0] : List Int) ++ t17) ++ t18) + List.length t19) * 1 ≤ maxN then
 if (List.length (((([69, 0] : List Int) ++ t17) ++ t18) ++ t19) + List.length ([(IntKind.u8.wrap a4), (IntKind.u8.wrap a5), 0, 0] : List Int)) * 1 ≤ maxN then
 if List.length ((((([69, 0] : List Int) ++ t17) ++ t18) ++ t19) ++ ([(IntKind.u8.wrap a4), (IntKind.u8.wrap a5), 0, 0] : List Int)) + List.length (bytesOf s2) ≤ maxN then
 if List.length (((((([69, 0] : List Int) ++ t17) ++ t18) ++ t19) ++ ([(IntKind.u8.wrap a4), (IntKind.u8.wrap a5), 0, 0] : List Int)) ++ (bytesOf s2)) + List.length (bytesOf s3) ≤ maxN then
 if 10 ≤ ((List.length ((((((([69, 0] : List Int) ++ t17) ++ t18) ++ t19) ++ ([(IntKind.u8.wrap a4), (IntKind.u8.wrap a5), 0, 0] : List Int)) ++ (bytesOf s2)) ++ (bytesOf s3)) : Nat) : Int) then
 if ((List.length ((((((([69, 0] : List Int) ++ t17) ++ t18) ++ t19) ++ ([(IntKind.u8.wrap a4), (IntKind.u8.wrap a5), 0, 0] : List Int)) ++ (bytesOf s2)) ++ (bytesOf s3)) : Nat) : Int) ≤ ((List.length ((((((([69, 0] : List Int) ++ t17) ++ t18) ++ t19) ++ ([(IntKind.u8.wrap a4), (IntKind.u8.wrap a5), 0, 0] : List Int)) ++ (bytesOf s2)) ++ (bytesOf s3)) : Nat) : Int) then
 (f114 k ((((((([69, 0] : List Int) ++ t17) ++ t18) ++ t19) ++ ([(IntKind.u8.wrap a4), (IntKind.u8.wrap a5), 0, 0] : List Int)) ++ (bytesOf s2)) ++ (bytesOf s3))).bind fun t20 => (f107 k t20).bind fun t21 => if (List.length (copyL ((((((([69, 0] : List Int) ++ t17) ++ t18) ++ t19) ++ ([(IntKind.u8.wrap a4), (IntKind.u8.wrap a5), 0, 0] : List Int)) ++ (bytesOf s2)) ++ (bytesOf s3)) 10 ((Int.toNat ((List.length ((((((([69, 0] : List Int) ++ t17) ++ t18) ++ t19) ++ ([(IntKind.u8.wrap a4), (IntKind.u8.wrap a5), 0, 0] : List Int)) ++ (bytesOf s2)) ++ (bytesOf s3)) : Nat) : Int)) - 10) t21) + List.length xs10) * 1 ≤ maxN then
 ret ((copyL ((((((([69, 0] : List Int) ++ t17) ++ t18) ++ t19) ++ ([(IntKind.u8.wrap a4), (IntKind.u8.wrap a5), 0, 0] : List Int)) ++ (bytesOf s2)) ++ (bytesOf s3)) 10 ((Int.toNat ((List.length ((((((([69, 0] : List Int) ++ t17) ++ t18) ++ t19) ++ ([(IntKind.u8.wrap a4), (IntKind.u8.wrap a5), 0, 0] : List Int)) ++ (bytesOf s2)) ++ (bytesOf s3)) : Nat) : Int)) - 10) t21) ++ xs10)
 else none
 else none
 else none
 else none
 else none
 else none
 else none
 else none
 else none
 else
 if b8 = true then
 (f107 k (IntKind.i64.wrap (20 + ((List.length xs10) : Int)))).bind fun t22 => if (List.length ([69, 0] : List Int) + List.length t22) * 1 ≤ maxN then
 (f107 k a6).bind fun t23 => if (List.length (([69, 0] : List Int) ++ t22) + List.length t23) * 1 ≤ maxN then
 (f107 k (IntKind.i64.wrap (a7 + 8192))).bind fun t24 => if (List.length ((([69, 0] : List Int) ++ t22) ++ t23) + List.length t24) * 1 ≤ maxN then
 if (List.length (((([69, 0] : List Int) ++ t22) ++ t23) ++ t24) + List.length ([(IntKind.u8.wrap a4), (IntKind.u8.wrap a5), 0, 0] : List Int)) * 1 ≤ maxN then
 if List.length ((((([69, 0] : List Int) ++ t22) ++ t23) ++ t24) ++ ([(IntKind.u8.wrap a4), (IntKind.u8.wrap a5), 0, 0] : List Int)) + List.length (bytesOf s2) ≤ maxN then
 if List.length (((((([69, 0] : List Int) ++ t22) ++ t23) ++ t24) ++ ([(IntKind.u8.wrap a4), (IntKind.u8.wrap a5), 0, 0] : List Int)) ++ (bytesOf s2)) + List.length (bytesOf s3) ≤ maxN then
 if 10 ≤ ((List.length ((((((([69, 0] : List Int) ++ t22) ++ t23) ++ t24) ++ ([(IntKind.u8.wrap a4), (IntKind.u8.wrap a5), 0, 0] : List Int)) ++ (bytesOf s2)) ++ (bytesOf s3)) : Nat) : Int) then
 if ((List.length ((((((([69, 0] : List Int) ++ t22) ++ t23) ++ t24) ++ ([(IntKind.u8.wrap a4), (IntKind.u8.wrap a5), 0, 0] : List Int)) ++ (bytesOf s2)) ++ (bytesOf s3)) : Nat) : Int) ≤ ((List.length ((((((([69, 0] : List Int) ++ t22) ++ t23) ++ t24) ++ ([(IntKind.u8.wrap a4), (IntKind.u8.wrap a5), 0, 0] : List Int)) ++ (bytesOf s2)) ++ (bytesOf s3)) : Nat) : Int) then
 (f114 k ((((((([69, 0] : List Int) ++ t22) ++ t23) ++ t24) ++ ([(IntKind.u8.wrap a4), (IntKind.u8.wrap a5), 0, 0] : List Int)) ++ (bytesOf s2)) ++ (bytesOf s3))).bind fun t25 => (f107 k t25).bind fun t26 => if (List.length (copyL ((((((([69, 0] : List Int) ++ t22) ++ t23) ++ t24) ++ ([(IntKind.u8.wrap a4), (IntKind.u8.wrap a5), 0, 0] : List Int)) ++ (bytesOf s2)) ++ (bytesOf s3)) 10 ((Int.toNat ((List.length ((((((([69, 0] : List Int) ++ t22) ++ t23) ++ t24) ++ ([(IntKind.u8.wrap a4), (IntKind.u8.wrap a5), 0, 0] : List Int)) ++ (bytesOf s2)) ++ (bytesOf s3)) : Nat) : Int)) - 10) t26) + List.length xs10) * 1 ≤ maxN then
 ret ((copyL ((((((([69, 0] : List Int) ++ t22) ++ t23) ++ t24) ++ ([(IntKind.u8.wrap a4), (IntKind.u8.wrap a5), 0, 0] : List Int)) ++ (bytesOf s2)) ++ (bytesOf s3)) 10 ((Int.toNat ((List.length ((((((([69, 0] : List Int) ++ t22) ++ t23) ++ t24) ++ ([(IntKind.u8.wrap a4), (IntKind.u8.wrap a5), 0, 0] : List Int)) ++ (bytesOf s2)) ++ (bytesOf s3)) : Nat) : Int)) - 10) t26) ++ xs10)
 else none
 else none
 else none
 else none
 else none
 else none
 else none
 else none
 else none
 else
 (f107 k (IntKind.i64.wrap (20 + ((List.length xs10) : Int)))).bind fun t27 => if (List.length ([69, 0] : List Int) + List.length t27) * 1 ≤ maxN then
 (f107 k a6).bind fun t28 => if (List.length (([69, 0] : List Int) ++ t27) + List.length t28) * 1 ≤ maxN then
 (f107 k a7).bind fun t29 => if (List.length ((([69, 0] : List Int) ++ t27) ++ t28) + List.length t29) * 1 ≤ maxN then
 if (List.length (((([69, 0] : List Int) ++ t27) ++ t28) ++ t29) + List.length ([(IntKind.u8.wrap a4), (IntKind.u8.wrap a5), 0, 0] : List Int)) * 1 ≤ maxN then
 if List.length ((((([69, 0] : List Int) ++ t27) ++ t28) ++ t29) ++ ([(IntKind.u8.wrap a4), (IntKind.u8.wrap a5), 0, 0] : List Int)) + List.length (bytesOf s2) ≤ maxN then
 if List.length (((((([69, 0] : List Int) ++ t27) ++ t28) ++ t29) ++ ([(IntKind.u8.wrap a4), (IntKind.u8.wrap a5), 0, 0] : List Int)) ++ (bytesOf s2)) + List.length (bytesOf s3) ≤ maxN then
 if 10 ≤ ((List.length ((((((([69, 0] : List Int) ++ t27) ++ t28) ++ t29) ++ ([(IntKind.u8.wrap a4), (IntKind.u8.wrap a5), 0, 0] : List Int)) ++ (bytesOf s2)) ++ (bytesOf s3)) : Nat) : Int) then
 if ((List.length ((((((([69, 0] : List Int) ++ t27) ++ t28) ++ t29) ++ ([(IntKind.u8.wrap a4), (IntKind.u8.wrap a5), 0, 0] : List Int)) ++ (bytesOf s2)) ++ (bytesOf s3)) : Nat) : Int) ≤ ((List.length ((((((([69, 0] : List Int) ++ t27) ++ t28) ++ t29) ++ ([(IntKind.u8.wrap a4), (IntKind.u8.wrap a5), 0, 0] : List Int)) ++ (bytesOf s2)) ++ (bytesOf s3)) : Nat) : Int) then
 (f114 k ((((((([69, 0] : List Int) ++ t27) ++ t28) ++ t29) ++ ([(IntKind.u8.wrap a4), (IntKind.u8.wrap a5), 0, 0] : List Int)) ++ (bytesOf s2)) ++ (bytesOf s3))).bind fun t30 => (f107 k t30).bind fun t31 => if (List.length (copyL ((((((([69, 0] : List Int) ++ t27) ++ t28) ++ t29) ++ ([(IntKind.u8.wrap a4), (IntKind.u8.wrap a5), 0, 0] : List Int)) ++ (bytesOf s2)) ++ (bytesOf s3)) 10 ((Int.toNat ((List.length ((((((([69, 0] : List Int) ++ t27) ++ t28) ++ t29) ++ ([(IntKind.u8.wrap a4), (IntKind.u8.wrap a5), 0, 0] : List Int)) ++ (bytesOf s2)) ++ (bytesOf s3)) : Nat) : Int)) - 10) t31) + List.length xs10) * 1 ≤ maxN then
 ret ((copyL ((((((([69, 0] : List Int) ++ t27) ++ t28) ++ t29) ++ ([(IntKind.u8.wrap a4), (IntKind.u8.wrap a5), 0, 0] : List Int)) ++ (bytesOf s2)) ++ (bytesOf s3)) 10 ((Int.toNat ((List.length ((((((([69, 0] : List Int) ++ t27) ++ t28) ++ t29) ++ ([(IntKind.u8.wrap a4), (IntKind.u8.wrap a5), 0, 0] : List Int)) ++ (bytesOf s2)) ++ (bytesOf s3)) : Nat) : Int)) - 10) t31) ++ xs10)
 else none
 else none
 else none
 else none
 else none
 else none
 else none
 else none
 else none
def f108 (k : Nat) (a1 : Int) (s2 s3 : ByteArray) (a4 a5 a6 a7 : Int) (b8 b9 : Bool) (xs10 : List Int) := f108.step k some a1 s2 s3 a4 a5 a6 a7 b8 b9 xs10
def f108.w {R : Type} : ((List Int)) → (Res env → Option R) → Option R := fun t32 K => K ⟨.v (.c (.own true 5 t32)), [[]]⟩
theorem f108.wn (x : ((List Int))) : ∃ res, ∀ {R : Type} (K : Res env → Option R), f108.w x K = K res := by
 exact ⟨_, fun _ => rfl⟩
def f108.hd (k : Nat) (ps_ : List (P2 env)) : Cl env :=
 gC Cl.no ps_ fun p_ ps_ => qG Cl.no p_ fun cs_ => dI Cl.no cs_ fun a1 cs_ => dS Cl.no cs_ fun s2 cs_ => dS Cl.no cs_ fun s3 cs_ => dI Cl.no cs_ fun a4 cs_ => dI Cl.no cs_ fun a5 cs_ => dI Cl.no cs_ fun a6 cs_ => dI Cl.no cs_ fun a7 cs_ => dB Cl.no cs_ fun b8 cs_ => dB Cl.no cs_ fun b9 cs_ => dM Cl.no 5 cs_ fun xs10 cs_ => gE Cl.no cs_ <| gE Cl.no ps_ <| { α := (List Int), o := f108 k a1 s2 s3 a4 a5 a6 a7 b8 b9 xs10, w := f108.w, nat := fun x _ => f108.wn x }
def f108.e (k : Nat) : Entry env := ⟨fun ps => f108.hd k (coer [[.no, .no, .no, .no, .no, .no, .no, .no, .no, .rd 5]] ps), [], []⟩
def f108.X (k : Nat) : Ctx env := { X0 with C := lookE [(107, f107.e k), (114, f114.e k)], eff := fun n => memN n [20] }
theorem f108.nat {R : Type} (k : Nat) (g : _ → Option R) (a1 s2 s3 a4 a5 a6 a7 b8 b9 xs10) : f108.step k g a1 s2 s3 a4 a5 a6 a7 b8 b9 xs10 = (f108 k a1 s2 s3 a4 a5 a6 a7 b8 b9 xs10).bind g := by
 simp only [f108, f108.step, bind_ite, bind_sum, oA, oS, oN]
theorem f108.ev (k : Nat) (a1 : Int) (s2 s3 : ByteArray) (a4 a5 a6 a7 : Int) (b8 b9 : Bool) (xs10 : List Int) : evF (f108.X k) (bodyOf Try.f108) Try.f108.ntmps Try.f108.results.toList [.g [.s (.int .i64 a1), .s (.string s2), .s (.string s3), .s (.int .i64 a4), .s (.int .i64 a5), .s (.int .i64 a6), .s (.int .i64 a7), .s (.bool b8), .s (.bool b9), .sl 5 xs10]] = f108.step k (fun x => f108.w x some) a1 s2 s3 a4 a5 a6 a7 b8 b9 xs10 := by kernel_rfl
theorem f108.hok (k : Nat) : HOK (f108.X k) (bodyOf Try.f108) where
 l := allP_mem (by exact trivial)
 j := allP_mem (by exact trivial)
 q := allP_mem (by exact trivial)
theorem f108.sound0 (k : Nat) : SoundC env Try.prog 108 (f108.hd k) := by
 intro ps_
 show GoodC _ _ _ ps_ (f108.hd k ps_)
 unfold f108.hd
 have hF_ := fun_sound envOK (cs_sound _ (by exact ⟨⟨f107.sound k, f107.fnok⟩, ⟨f114.sound k, f114.fnok⟩, trivial⟩)) (f108.hok k) Try.func108 rfl
 have hev_ := f108.ev k
 have hnat_ := fun g_ => f108.nat k (R := Res env) g_
 exact rdC
theorem f108.sound (k : Nat) : SoundC env Try.prog 108 (f108.e k).F := soundC_coer (f108.sound0 k) [[.no, .no, .no, .no, .no, .no, .no, .no, .no, .rd 5]]
theorem f108.fnok : FnOK Try.prog 108 := fn_ok Try.func108 (by kernel_rfl) rfl
def f171.step {R : Type} (k : Nat) (ret : ((List Int)) → Option R) (s1 s2 : ByteArray) (a3 a4 : Int) : Option R :=
 if ByteArray.size s1 + ByteArray.size s2 ≤ maxN then
 if ByteArray.size (s1 ++ s2) ≤ maxN then
 if (decide ((((ByteArray.size s1) : Nat) : Int) = 4)) = true then
 if (List.length (bytesOf (s1 ++ s2)) + List.length ([0, (IntKind.u8.wrap a3)] : List Int)) * 1 ≤ maxN then
 (f107 k a4).bind fun t5 => if (List.length ((bytesOf (s1 ++ s2)) ++ ([0, (IntKind.u8.wrap a3)] : List Int)) + List.length t5) * 1 ≤ maxN then
 ret (((bytesOf (s1 ++ s2)) ++ ([0, (IntKind.u8.wrap a3)] : List Int)) ++ t5)
 else none
 else none
 else
 if (List.length (bytesOf (s1 ++ s2)) + List.length ([0, 0] : List Int)) * 1 ≤ maxN then
 (f107 k a4).bind fun t6 => if (List.length ((bytesOf (s1 ++ s2)) ++ ([0, 0] : List Int)) + List.length t6) * 1 ≤ maxN then
 if (List.length (((bytesOf (s1 ++ s2)) ++ ([0, 0] : List Int)) ++ t6) + List.length ([0, 0, 0, (IntKind.u8.wrap a3)] : List Int)) * 1 ≤ maxN then
 ret ((((bytesOf (s1 ++ s2)) ++ ([0, 0] : List Int)) ++ t6) ++ ([0, 0, 0, (IntKind.u8.wrap a3)] : List Int))
 else none
 else none
 else none
 else none
 else none
def f171 (k : Nat) (s1 s2 : ByteArray) (a3 a4 : Int) := f171.step k some s1 s2 a3 a4
def f171.w {R : Type} : ((List Int)) → (Res env → Option R) → Option R := fun t7 K => K ⟨.v (.c (.own true 5 t7)), [[], [], [], []]⟩
theorem f171.wn (x : ((List Int))) : ∃ res, ∀ {R : Type} (K : Res env → Option R), f171.w x K = K res := by
 exact ⟨_, fun _ => rfl⟩
def f171.hd (k : Nat) (ps_ : List (P2 env)) : Cl env :=
 pS Cl.no ps_ fun s1 ps_ => pS Cl.no ps_ fun s2 ps_ => pI Cl.no ps_ fun a3 ps_ => pI Cl.no ps_ fun a4 ps_ => gE Cl.no ps_ <| { α := (List Int), o := f171 k s1 s2 a3 a4, w := f171.w, nat := fun x _ => f171.wn x }
def f171.e (k : Nat) : Entry env := ⟨f171.hd k, [], []⟩
def f171.X (k : Nat) : Ctx env := { X0 with C := lookE [(107, f107.e k)] }
theorem f171.nat {R : Type} (k : Nat) (g : _ → Option R) (s1 s2 a3 a4) : f171.step k g s1 s2 a3 a4 = (f171 k s1 s2 a3 a4).bind g := by
 simp only [f171, f171.step, bind_ite, bind_sum, oA, oS, oN]
theorem f171.ev (k : Nat) (s1 s2 : ByteArray) (a3 a4 : Int) : evF (f171.X k) (bodyOf Try.f171) Try.f171.ntmps Try.f171.results.toList [.v (.c (.s (.string s1))), .v (.c (.s (.string s2))), .v (.c (.s (.int .i64 a3))), .v (.c (.s (.int .i64 a4)))] = f171.step k (fun x => f171.w x some) s1 s2 a3 a4 := by kernel_rfl
theorem f171.hok (k : Nat) : HOK (f171.X k) (bodyOf Try.f171) where
 l := allP_mem (by exact trivial)
 j := allP_mem (by exact trivial)
 q := allP_mem (by exact trivial)
theorem f171.sound (k : Nat) : SoundC env Try.prog 171 ((f171.e k).F) := by
 intro ps_
 show GoodC _ _ _ ps_ (f171.hd k ps_)
 unfold f171.hd
 have hF_ := fun_sound envOK (cs_sound _ (by exact ⟨⟨f107.sound k, f107.fnok⟩, trivial⟩)) (f171.hok k) Try.func171 rfl
 have hev_ := f171.ev k
 have hnat_ := fun g_ => f171.nat k (R := Res env) g_
 exact rdC
theorem f171.fnok : FnOK Try.prog 171 := fn_ok Try.func171 (by kernel_rfl) rfl
def f109.step {R : Type} (k : Nat) (ret : Int → Option R) (s1 s2 : ByteArray) (xs3 : List Int) : Option R :=
 if (decide ((((ByteArray.size s1) : Nat) : Int) = 4)) = true then
 (f114 k xs3).bind fun t4 => ret t4
 else
 (f171 k s1 s2 58 ((List.length xs3) : Int)).bind fun t5 => if (List.length t5 + List.length xs3) * 1 ≤ maxN then
 (f114 k (t5 ++ xs3)).bind fun t6 => ret t6
 else none
def f109 (k : Nat) (s1 s2 : ByteArray) (xs3 : List Int) := f109.step k some s1 s2 xs3
def f109.w {R : Type} : Int → (Res env → Option R) → Option R := fun t7 K => K ⟨.v (.c (.s (.int .i64 t7))), [[], [], []]⟩
theorem f109.wn (x : Int) : ∃ res, ∀ {R : Type} (K : Res env → Option R), f109.w x K = K res := by
 exact ⟨_, fun _ => rfl⟩
def f109.hd (k : Nat) (ps_ : List (P2 env)) : Cl env :=
 pS Cl.no ps_ fun s1 ps_ => pS Cl.no ps_ fun s2 ps_ => pM Cl.no 5 ps_ fun xs3 ps_ => gE Cl.no ps_ <| { α := Int, o := f109 k s1 s2 xs3, w := f109.w, nat := fun x _ => f109.wn x }
def f109.e (k : Nat) : Entry env := ⟨fun ps => f109.hd k (coer [[.no], [.no], [.rd 5]] ps), [], []⟩
def f109.X (k : Nat) : Ctx env := { X0 with C := lookE [(114, f114.e k), (171, f171.e k)] }
theorem f109.nat {R : Type} (k : Nat) (g : _ → Option R) (s1 s2 xs3) : f109.step k g s1 s2 xs3 = (f109 k s1 s2 xs3).bind g := by
 simp only [f109, f109.step, bind_ite, bind_sum, oA, oS, oN]
theorem f109.ev (k : Nat) (s1 s2 : ByteArray) (xs3 : List Int) : evF (f109.X k) (bodyOf Try.f109) Try.f109.ntmps Try.f109.results.toList [.v (.c (.s (.string s1))), .v (.c (.s (.string s2))), .v (.c (.sl 5 xs3))] = f109.step k (fun x => f109.w x some) s1 s2 xs3 := by kernel_rfl
theorem f109.hok (k : Nat) : HOK (f109.X k) (bodyOf Try.f109) where
 l := allP_mem (by exact trivial)
 j := allP_mem (by exact trivial)
 q := allP_mem (by exact trivial)
theorem f109.sound0 (k : Nat) : SoundC env Try.prog 109 (f109.hd k) := by
 intro ps_
 show GoodC _ _ _ ps_ (f109.hd k ps_)
 unfold f109.hd
 have hF_ := fun_sound envOK (cs_sound _ (by exact ⟨⟨f114.sound k, f114.fnok⟩, ⟨f171.sound k, f171.fnok⟩, trivial⟩)) (f109.hok k) Try.func109 rfl
 have hev_ := f109.ev k
 have hnat_ := fun g_ => f109.nat k (R := Res env) g_
 exact rdC
theorem f109.sound (k : Nat) : SoundC env Try.prog 109 (f109.e k).F := soundC_coer (f109.sound0 k) [[.no], [.no], [.rd 5]]
theorem f109.fnok : FnOK Try.prog 109 := fn_ok Try.func109 (by kernel_rfl) rfl
def f41.step {R : Type} (k : Nat) (ret : ((Int × ByteArray × ByteArray × Int × Int × Int × Int × Bool × Bool × Int) ⊕ (Int × ByteArray × ByteArray × Int × Int × Int × Int × Bool × Bool × (List Int) × Int)) → Option R) (s1 : ByteArray) (b2 : Bool) (a3 a4 : Int) (xs5 : List S66) (s6 : ByteArray) (b7 : Bool) (a8 a9 : Int) (xs10 : List S66) (xs11 : List ByteArray) (xs12 : List Int) (a13 : Int) (s14 s15 : ByteArray) (a16 a17 a18 a19 : Int) (b20 b21 : Bool) (xs22 : List Int) (a23 a24 : Int) : Option R :=
 (f50 k s1 b2 a3 a4 xs5 s6 b7 a8 a9 xs10 xs11 xs12).bind fun t25 => if (!t25) = false then
 (f44 k a13 s14 s15 a16 a17 a18 a19 b20 b21 xs22).bind fun t26 => if (!t26) = true then
 ret (.inl (0, ByteArray.empty, ByteArray.empty, 0, 0, 0, 0, false, false, 1))
 else
 (f102 k a13 a23).bind (Sum.elim (fun t27 => (f63 k a24 0 65535).bind fun t28 => if (!t28) = false then
 if (!t27.2) = true then
 ret (.inl (0, ByteArray.empty, ByteArray.empty, 0, 0, 0, 0, false, false, 4))
 else
 (f103 k a13).bind fun t29 => if (decide (a17 = t29)) = false then
 if (decide (a19 > 0)) = true then
 ret (.inl (0, ByteArray.empty, ByteArray.empty, 0, 0, 0, 0, false, false, 9))
 else
 (f103 k a13).bind fun t30 => (f104 k xs11 (⟨a13, s14, s15, a16, a17, a18, a19, b20, b21, xs22⟩ : S35)).bind fun t31 => if 0 ≤ t31 then
 if t31 < ((List.length xs11 : Nat) : Int) then
 if (decide (a23 ≠ 11)) = true then
 if (List.length t27.1 + List.length ([0, 0, 0, 0] : List Int)) * 1 ≤ maxN then
 (f107 k 0).bind fun t32 => if (List.length (t27.1 ++ ([0, 0, 0, 0] : List Int)) + List.length t32) * 1 ≤ maxN then
 (f108 k a13 s14 s15 a16 a17 a18 a19 b20 b21 xs22).bind fun t33 => if 0 ≤ (if 48 < ((List.length t33) : Int) then 48 else ((List.length t33) : Int)) then
 if (if 48 < ((List.length t33) : Int) then 48 else ((List.length t33) : Int)) ≤ ((List.length t33 : Nat) : Int) then
 if (List.length ((t27.1 ++ ([0, 0, 0, 0] : List Int)) ++ t32) + ((Int.toNat (if 48 < ((List.length t33) : Int) then 48 else ((List.length t33) : Int))) - 0)) * 1 ≤ maxN then
 if 2 ≤ ((List.length (((t27.1 ++ ([0, 0, 0, 0] : List Int)) ++ t32) ++ (List.take ((Int.toNat (if 48 < ((List.length t33) : Int) then 48 else ((List.length t33) : Int))) - 0) (List.drop 0 t33))) : Nat) : Int) then
 if ((List.length (((t27.1 ++ ([0, 0, 0, 0] : List Int)) ++ t32) ++ (List.take ((Int.toNat (if 48 < ((List.length t33) : Int) then 48 else ((List.length t33) : Int))) - 0) (List.drop 0 t33))) : Nat) : Int) ≤ ((List.length (((t27.1 ++ ([0, 0, 0, 0] : List Int)) ++ t32) ++ (List.take ((Int.toNat (if 48 < ((List.length t33) : Int) then 48 else ((List.length t33) : Int))) - 0) (List.drop 0 t33))) : Nat) : Int) then
 (f109 k (List.getD xs11 (Int.toNat t31) ByteArray.empty) s14 (((t27.1 ++ ([0, 0, 0, 0] : List Int)) ++ t32) ++ (List.take ((Int.toNat (if 48 < ((List.length t33) : Int) then 48 else ((List.length t33) : Int))) - 0) (List.drop 0 t33)))).bind fun t34 => (f107 k t34).bind fun t35 => ret (.inr (a13, (List.getD xs11 (Int.toNat t31) ByteArray.empty), s14, 64, t30, 0, 0, false, false, (copyL (((t27.1 ++ ([0, 0, 0, 0] : List Int)) ++ t32) ++ (List.take ((Int.toNat (if 48 < ((List.length t33) : Int) then 48 else ((List.length t33) : Int))) - 0) (List.drop 0 t33))) 2 ((Int.toNat ((List.length (((t27.1 ++ ([0, 0, 0, 0] : List Int)) ++ t32) ++ (List.take ((Int.toNat (if 48 < ((List.length t33) : Int) then 48 else ((List.length t33) : Int))) - 0) (List.drop 0 t33))) : Nat) : Int)) - 2) t35), 0))
 else none
 else none
 else none
 else none
 else none
 else none
 else none
 else
 if (List.length t27.1 + List.length ([0, 0, 0, 0] : List Int)) * 1 ≤ maxN then
 (f107 k a24).bind fun t36 => if (List.length (t27.1 ++ ([0, 0, 0, 0] : List Int)) + List.length t36) * 1 ≤ maxN then
 (f108 k a13 s14 s15 a16 a17 a18 a19 b20 b21 xs22).bind fun t37 => if 0 ≤ (if 48 < ((List.length t37) : Int) then 48 else ((List.length t37) : Int)) then
 if (if 48 < ((List.length t37) : Int) then 48 else ((List.length t37) : Int)) ≤ ((List.length t37 : Nat) : Int) then
 if (List.length ((t27.1 ++ ([0, 0, 0, 0] : List Int)) ++ t36) + ((Int.toNat (if 48 < ((List.length t37) : Int) then 48 else ((List.length t37) : Int))) - 0)) * 1 ≤ maxN then
 if 2 ≤ ((List.length (((t27.1 ++ ([0, 0, 0, 0] : List Int)) ++ t36) ++ (List.take ((Int.toNat (if 48 < ((List.length t37) : Int) then 48 else ((List.length t37) : Int))) - 0) (List.drop 0 t37))) : Nat) : Int) then
 if ((List.length (((t27.1 ++ ([0, 0, 0, 0] : List Int)) ++ t36) ++ (List.take ((Int.toNat (if 48 < ((List.length t37) : Int) then 48 else ((List.length t37) : Int))) - 0) (List.drop 0 t37))) : Nat) : Int) ≤ ((List.length (((t27.1 ++ ([0, 0, 0, 0] : List Int)) ++ t36) ++ (List.take ((Int.toNat (if 48 < ((List.length t37) : Int) then 48 else ((List.length t37) : Int))) - 0) (List.drop 0 t37))) : Nat) : Int) then
 (f109 k (List.getD xs11 (Int.toNat t31) ByteArray.empty) s14 (((t27.1 ++ ([0, 0, 0, 0] : List Int)) ++ t36) ++ (List.take ((Int.toNat (if 48 < ((List.length t37) : Int) then 48 else ((List.length t37) : Int))) - 0) (List.drop 0 t37)))).bind fun t38 => (f107 k t38).bind fun t39 => ret (.inr (a13, (List.getD xs11 (Int.toNat t31) ByteArray.empty), s14, 64, t30, 0, 0, false, false, (copyL (((t27.1 ++ ([0, 0, 0, 0] : List Int)) ++ t36) ++ (List.take ((Int.toNat (if 48 < ((List.length t37) : Int) then 48 else ((List.length t37) : Int))) - 0) (List.drop 0 t37))) 2 ((Int.toNat ((List.length (((t27.1 ++ ([0, 0, 0, 0] : List Int)) ++ t36) ++ (List.take ((Int.toNat (if 48 < ((List.length t37) : Int) then 48 else ((List.length t37) : Int))) - 0) (List.drop 0 t37))) : Nat) : Int)) - 2) t39), 0))
 else none
 else none
 else none
 else none
 else none
 else none
 else none
 else none
 else none
 else
 ret (.inl (0, ByteArray.empty, ByteArray.empty, 0, 0, 0, 0, false, false, 9))
 else
 ret (.inl (0, ByteArray.empty, ByteArray.empty, 0, 0, 0, 0, false, false, 4))) (fun t40 => (f63 k a24 0 65535).bind fun t41 => if (!t41) = false then
 if (!t40) = true then
 ret (.inl (0, ByteArray.empty, ByteArray.empty, 0, 0, 0, 0, false, false, 4))
 else
 (f103 k a13).bind fun t42 => if (decide (a17 = t42)) = false then
 if (decide (a19 > 0)) = true then
 ret (.inl (0, ByteArray.empty, ByteArray.empty, 0, 0, 0, 0, false, false, 9))
 else
 (f103 k a13).bind fun t43 => (f104 k xs11 (⟨a13, s14, s15, a16, a17, a18, a19, b20, b21, xs22⟩ : S35)).bind fun t44 => if 0 ≤ t44 then
 if t44 < ((List.length xs11 : Nat) : Int) then
 if (decide (a23 ≠ 11)) = true then
 if (List.length ([] : List Int) + List.length ([0, 0, 0, 0] : List Int)) * 1 ≤ maxN then
 (f107 k 0).bind fun t45 => if (List.length (([] : List Int) ++ ([0, 0, 0, 0] : List Int)) + List.length t45) * 1 ≤ maxN then
 (f108 k a13 s14 s15 a16 a17 a18 a19 b20 b21 xs22).bind fun t46 => if 0 ≤ (if 48 < ((List.length t46) : Int) then 48 else ((List.length t46) : Int)) then
 if (if 48 < ((List.length t46) : Int) then 48 else ((List.length t46) : Int)) ≤ ((List.length t46 : Nat) : Int) then
 if (List.length ((([] : List Int) ++ ([0, 0, 0, 0] : List Int)) ++ t45) + ((Int.toNat (if 48 < ((List.length t46) : Int) then 48 else ((List.length t46) : Int))) - 0)) * 1 ≤ maxN then
 if 2 ≤ ((List.length (((([] : List Int) ++ ([0, 0, 0, 0] : List Int)) ++ t45) ++ (List.take ((Int.toNat (if 48 < ((List.length t46) : Int) then 48 else ((List.length t46) : Int))) - 0) (List.drop 0 t46))) : Nat) : Int) then
 if ((List.length (((([] : List Int) ++ ([0, 0, 0, 0] : List Int)) ++ t45) ++ (List.take ((Int.toNat (if 48 < ((List.length t46) : Int) then 48 else ((List.length t46) : Int))) - 0) (List.drop 0 t46))) : Nat) : Int) ≤ ((List.length (((([] : List Int) ++ ([0, 0, 0, 0] : List Int)) ++ t45) ++ (List.take ((Int.toNat (if 48 < ((List.length t46) : Int) then 48 else ((List.length t46) : Int))) - 0) (List.drop 0 t46))) : Nat) : Int) then
 (f109 k (List.getD xs11 (Int.toNat t44) ByteArray.empty) s14 (((([] : List Int) ++ ([0, 0, 0, 0] : List Int)) ++ t45) ++ (List.take ((Int.toNat (if 48 < ((List.length t46) : Int) then 48 else ((List.length t46) : Int))) - 0) (List.drop 0 t46)))).bind fun t47 => (f107 k t47).bind fun t48 => ret (.inr (a13, (List.getD xs11 (Int.toNat t44) ByteArray.empty), s14, 64, t43, 0, 0, false, false, (copyL (((([] : List Int) ++ ([0, 0, 0, 0] : List Int)) ++ t45) ++ (List.take ((Int.toNat (if 48 < ((List.length t46) : Int) then 48 else ((List.length t46) : Int))) - 0) (List.drop 0 t46))) 2 ((Int.toNat ((List.length (((([] : List Int) ++ ([0, 0, 0, 0] : List Int)) ++ t45) ++ (List.take ((Int.toNat (if 48 < ((List.length t46) : Int) then 48 else ((List.length t46) : Int))) - 0) (List.drop 0 t46))) : Nat) : Int)) - 2) t48), 0))
 else none
 else none
 else none
 else none
 else none
 else none
 else none
 else
 if (List.length ([] : List Int) + List.length ([0, 0, 0, 0] : List Int)) * 1 ≤ maxN then
 (f107 k a24).bind fun t49 => if (List.length (([] : List Int) ++ ([0, 0, 0, 0] : List Int)) + List.length t49) * 1 ≤ maxN then
 (f108 k a13 s14 s15 a16 a17 a18 a19 b20 b21 xs22).bind fun t50 => if 0 ≤ (if 48 < ((List.length t50) : Int) then 48 else ((List.length t50) : Int)) then
 if (if 48 < ((List.length t50) : Int) then 48 else ((List.length t50) : Int)) ≤ ((List.length t50 : Nat) : Int) then
 if (List.length ((([] : List Int) ++ ([0, 0, 0, 0] : List Int)) ++ t49) + ((Int.toNat (if 48 < ((List.length t50) : Int) then 48 else ((List.length t50) : Int))) - 0)) * 1 ≤ maxN then
 if 2 ≤ ((List.length (((([] : List Int) ++ ([0, 0, 0, 0] : List Int)) ++ t49) ++ (List.take ((Int.toNat (if 48 < ((List.length t50) : Int) then 48 else ((List.length t50) : Int))) - 0) (List.drop 0 t50))) : Nat) : Int) then
 if ((List.length (((([] : List Int) ++ ([0, 0, 0, 0] : List Int)) ++ t49) ++ (List.take ((Int.toNat (if 48 < ((List.length t50) : Int) then 48 else ((List.length t50) : Int))) - 0) (List.drop 0 t50))) : Nat) : Int) ≤ ((List.length (((([] : List Int) ++ ([0, 0, 0, 0] : List Int)) ++ t49) ++ (List.take ((Int.toNat (if 48 < ((List.length t50) : Int) then 48 else ((List.length t50) : Int))) - 0) (List.drop 0 t50))) : Nat) : Int) then
 (f109 k (List.getD xs11 (Int.toNat t44) ByteArray.empty) s14 (((([] : List Int) ++ ([0, 0, 0, 0] : List Int)) ++ t49) ++ (List.take ((Int.toNat (if 48 < ((List.length t50) : Int) then 48 else ((List.length t50) : Int))) - 0) (List.drop 0 t50)))).bind fun t51 => (f107 k t51).bind fun t52 => ret (.inr (a13, (List.getD xs11 (Int.toNat t44) ByteArray.empty), s14, 64, t43, 0, 0, false, false, (copyL (((([] : List Int) ++ ([0, 0, 0, 0] : List Int)) ++ t49) ++ (List.take ((Int.toNat (if 48 < ((List.length t50) : Int) then 48 else ((List.length t50) : Int))) - 0) (List.drop 0 t50))) 2 ((Int.toNat ((List.length (((([] : List Int) ++ ([0, 0, 0, 0] : List Int)) ++ t49) ++ (List.take ((Int.toNat (if 48 < ((List.length t50) : Int) then 48 else ((List.length t50) : Int))) - 0) (List.drop 0 t50))) : Nat) : Int)) - 2) t52), 0))
 else none
 else none
 else none
 else none
 else none
 else none
 else none
 else none
 else none
 else
 ret (.inl (0, ByteArray.empty, ByteArray.empty, 0, 0, 0, 0, false, false, 9))
 else
 ret (.inl (0, ByteArray.empty, ByteArray.empty, 0, 0, 0, 0, false, false, 4))))
 else
 ret (.inl (0, ByteArray.empty, ByteArray.empty, 0, 0, 0, 0, false, false, 1))
def f41 (k : Nat) (s1 : ByteArray) (b2 : Bool) (a3 a4 : Int) (xs5 : List S66) (s6 : ByteArray) (b7 : Bool) (a8 a9 : Int) (xs10 : List S66) (xs11 : List ByteArray) (xs12 : List Int) (a13 : Int) (s14 s15 : ByteArray) (a16 a17 a18 a19 : Int) (b20 b21 : Bool) (xs22 : List Int) (a23 a24 : Int) := f41.step k some s1 b2 a3 a4 xs5 s6 b7 a8 a9 xs10 xs11 xs12 a13 s14 s15 a16 a17 a18 a19 b20 b21 xs22 a23 a24
def f41.w {R : Type} : ((Int × ByteArray × ByteArray × Int × Int × Int × Int × Bool × Bool × Int) ⊕ (Int × ByteArray × ByteArray × Int × Int × Int × Int × Bool × Bool × (List Int) × Int)) → (Res env → Option R) → Option R := fun x K => Sum.elim (fun t53 => K ⟨.tup [.g [.s (.int .i64 t53.1), .s (.string t53.2.1), .s (.string t53.2.2.1), .s (.int .i64 t53.2.2.2.1), .s (.int .i64 t53.2.2.2.2.1), .s (.int .i64 t53.2.2.2.2.2.1), .s (.int .i64 t53.2.2.2.2.2.2.1), .s (.bool t53.2.2.2.2.2.2.2.1), .s (.bool t53.2.2.2.2.2.2.2.2.1), .s (.slice none 0 0)], .c (.s (.int .i64 t53.2.2.2.2.2.2.2.2.2))], [[], [], [], []]⟩) (fun t54 => K ⟨.tup [.g [.s (.int .i64 t54.1), .s (.string t54.2.1), .s (.string t54.2.2.1), .s (.int .i64 t54.2.2.2.1), .s (.int .i64 t54.2.2.2.2.1), .s (.int .i64 t54.2.2.2.2.2.1), .s (.int .i64 t54.2.2.2.2.2.2.1), .s (.bool t54.2.2.2.2.2.2.2.1), .s (.bool t54.2.2.2.2.2.2.2.2.1), .own true 5 t54.2.2.2.2.2.2.2.2.2.1], .c (.s (.int .i64 t54.2.2.2.2.2.2.2.2.2.2))], [[], [], [], []]⟩) x
theorem f41.wn (x : ((Int × ByteArray × ByteArray × Int × Int × Int × Int × Bool × Bool × Int) ⊕ (Int × ByteArray × ByteArray × Int × Int × Int × Int × Bool × Bool × (List Int) × Int))) : ∃ res, ∀ {R : Type} (K : Res env → Option R), f41.w x K = K res := by
 rcases x with x | x <;> exact ⟨_, fun _ => rfl⟩
def f41.hd (k : Nat) (ps_ : List (P2 env)) : Cl env :=
 gC Cl.no ps_ fun p_ ps_ => qG Cl.no p_ fun cs_ => dS Cl.no cs_ fun s1 cs_ => dB Cl.no cs_ fun b2 cs_ => dI Cl.no cs_ fun a3 cs_ => dI Cl.no cs_ fun a4 cs_ => dM Cl.no 66 cs_ fun xs5 cs_ => dS Cl.no cs_ fun s6 cs_ => dB Cl.no cs_ fun b7 cs_ => dI Cl.no cs_ fun a8 cs_ => dI Cl.no cs_ fun a9 cs_ => dM Cl.no 66 cs_ fun xs10 cs_ => dM Cl.no 9 cs_ fun xs11 cs_ => dM Cl.no 3 cs_ fun xs12 cs_ => gE Cl.no cs_ <| gC Cl.no ps_ fun p_ ps_ => qG Cl.no p_ fun cs_ => dI Cl.no cs_ fun a13 cs_ => dS Cl.no cs_ fun s14 cs_ => dS Cl.no cs_ fun s15 cs_ => dI Cl.no cs_ fun a16 cs_ => dI Cl.no cs_ fun a17 cs_ => dI Cl.no cs_ fun a18 cs_ => dI Cl.no cs_ fun a19 cs_ => dB Cl.no cs_ fun b20 cs_ => dB Cl.no cs_ fun b21 cs_ => dM Cl.no 5 cs_ fun xs22 cs_ => gE Cl.no cs_ <| pI Cl.no ps_ fun a23 ps_ => pI Cl.no ps_ fun a24 ps_ => gE Cl.no ps_ <| { α := (Int × ByteArray × ByteArray × Int × Int × Int × Int × Bool × Bool × Int) ⊕ (Int × ByteArray × ByteArray × Int × Int × Int × Int × Bool × Bool × (List Int) × Int), o := f41 k s1 b2 a3 a4 xs5 s6 b7 a8 a9 xs10 xs11 xs12 a13 s14 s15 a16 a17 a18 a19 b20 b21 xs22 a23 a24, w := f41.w, nat := fun x _ => f41.wn x }
def f41.e (k : Nat) : Entry env := ⟨fun ps => f41.hd k (coer [[.no, .no, .no, .no, .rd 66, .no, .no, .no, .no, .rd 66, .rd 9, .rd 3], [.no, .no, .no, .no, .no, .no, .no, .no, .no, .rd 5], [.no], [.no]] ps), [], []⟩
def f41.X (k : Nat) : Ctx env := { X0 with C := lookE [(44, f44.e k), (50, f50.e k), (63, f63.e k), (102, f102.e k), (103, f103.e k), (104, f104.e k), (105, f105.e k), (107, f107.e k), (108, f108.e k), (109, f109.e k)], eff := fun n => memN n [8, 9, 16] }
theorem f41.nat {R : Type} (k : Nat) (g : _ → Option R) (s1 b2 a3 a4 xs5 s6 b7 a8 a9 xs10 xs11 xs12 a13 s14 s15 a16 a17 a18 a19 b20 b21 xs22 a23 a24) : f41.step k g s1 b2 a3 a4 xs5 s6 b7 a8 a9 xs10 xs11 xs12 a13 s14 s15 a16 a17 a18 a19 b20 b21 xs22 a23 a24 = (f41 k s1 b2 a3 a4 xs5 s6 b7 a8 a9 xs10 xs11 xs12 a13 s14 s15 a16 a17 a18 a19 b20 b21 xs22 a23 a24).bind g := by
 simp only [f41, f41.step, bind_ite, bind_sum, oA, oS, oN]
theorem f41.ev (k : Nat) (s1 : ByteArray) (b2 : Bool) (a3 a4 : Int) (xs5 : List S66) (s6 : ByteArray) (b7 : Bool) (a8 a9 : Int) (xs10 : List S66) (xs11 : List ByteArray) (xs12 : List Int) (a13 : Int) (s14 s15 : ByteArray) (a16 a17 a18 a19 : Int) (b20 b21 : Bool) (xs22 : List Int) (a23 a24 : Int) : evF (f41.X k) (bodyOf Try.f41) Try.f41.ntmps Try.f41.results.toList [.g [.s (.string s1), .s (.bool b2), .s (.int .i64 a3), .s (.int .i64 a4), .sl 66 xs5, .s (.string s6), .s (.bool b7), .s (.int .i64 a8), .s (.int .i64 a9), .sl 66 xs10, .sl 9 xs11, .sl 3 xs12], .g [.s (.int .i64 a13), .s (.string s14), .s (.string s15), .s (.int .i64 a16), .s (.int .i64 a17), .s (.int .i64 a18), .s (.int .i64 a19), .s (.bool b20), .s (.bool b21), .sl 5 xs22], .v (.c (.s (.int .i64 a23))), .v (.c (.s (.int .i64 a24)))] = f41.step k (fun x => f41.w x some) s1 b2 a3 a4 xs5 s6 b7 a8 a9 xs10 xs11 xs12 a13 s14 s15 a16 a17 a18 a19 b20 b21 xs22 a23 a24 := by kernel_rfl
theorem f41.hok (k : Nat) : HOK (f41.X k) (bodyOf Try.f41) where
 l := allP_mem (by exact trivial)
 j := allP_mem (by exact trivial)
 q := allP_mem (by exact trivial)
theorem f41.sound0 (k : Nat) : SoundC env Try.prog 41 (f41.hd k) := by
 intro ps_
 show GoodC _ _ _ ps_ (f41.hd k ps_)
 unfold f41.hd
 have hF_ := fun_sound envOK (cs_sound _ (by exact ⟨⟨f44.sound k, f44.fnok⟩, ⟨f50.sound k, f50.fnok⟩, ⟨f63.sound k, f63.fnok⟩, ⟨f102.sound k, f102.fnok⟩, ⟨f103.sound k, f103.fnok⟩, ⟨f104.sound k, f104.fnok⟩, ⟨f105.sound k, f105.fnok⟩, ⟨f107.sound k, f107.fnok⟩, ⟨f108.sound k, f108.fnok⟩, ⟨f109.sound k, f109.fnok⟩, trivial⟩)) (f41.hok k) Try.func41 rfl
 have hev_ := f41.ev k
 have hnat_ := fun g_ => f41.nat k (R := Res env) g_
 exact rdC
theorem f41.sound (k : Nat) : SoundC env Try.prog 41 (f41.e k).F := soundC_coer (f41.sound0 k) [[.no, .no, .no, .no, .rd 66, .no, .no, .no, .no, .rd 66, .rd 9, .rd 3], [.no, .no, .no, .no, .no, .no, .no, .no, .no, .rd 5], [.no], [.no]]
theorem f41.fnok : FnOK Try.prog 41 := fn_ok Try.func41 (by kernel_rfl) rfl
def f158.l4.step {R : Type} (k : Nat) (rec_ : ByteArray → Int → Option R) (ret : (Bool ⊕ (Unit)) → Option R) (s2 : ByteArray) (a3 : Int) : Option R :=
 if (decide (a3 < (((ByteArray.size s2) : Nat) : Int))) = true then
 if 0 ≤ a3 then
 if a3 < ((ByteArray.size s2 : Nat) : Int) then
 if (decide ((bt s2 a3) ≠ 48)) = true then
 if 0 ≤ a3 then
 if a3 < ((ByteArray.size s2 : Nat) : Int) then
 if (decide ((bt s2 a3) ≠ 49)) = true then
 ret (.inl false)
 else
 rec_ s2 (IntKind.i64.wrap (a3 + 1))
 else none
 else none
 else
 rec_ s2 (IntKind.i64.wrap (a3 + 1))
 else none
 else none
 else
 ret (.inr ())
def f158.l4 (k : Nat) : Nat → ByteArray → Int → Option (Bool ⊕ (Unit))
 | 0, _, _ => none
 | j + 1, s2, a3 => f158.l4.step k (fun s2 a3 => f158.l4 k j s2 a3) some s2 a3
def f158.l4.w {R : Type} : (Bool ⊕ (Unit)) → (Exit → St env → Option R) → Option R := fun x K => Sum.elim (fun t6 => K .ret ⟨fullT [2] 0 23 [.v (.c (.s (.bool t6)))], [], 369⟩) (fun t7 => K (.exit 0) ⟨fullT [] 0 23 [], [], 369⟩) x
def f158.l4.st (s2 : ByteArray) (a3 : Int) : St env := ⟨fullT [0, 3] 0 23 [.v (.c (.s (.string s2))), .v (.c (.s (.int .i64 a3)))], [], 81⟩
def f158.l4.hd (k : Nat) (ts_ : List (AV env)) (mm_ : Mem env) (n_ : Nat) : LCl env :=
 gTs Ln [0, 3] 23 ts_ fun l_ => tS Ln l_ fun s2 l_ => tI Ln l_ fun a3 l_ => gE Ln l_ <| gE Ln mm_ <| gN Ln 81 n_ { α := Bool ⊕ (Unit), o := f158.l4 k k s2 a3, w := f158.l4.w }
def f158.step {R : Type} (k : Nat) (ret : Bool → Option R) (s1 : ByteArray) : Option R :=
 if (decide ((((ByteArray.size s1) : Nat) : Int) > 128)) = true then
 ret false
 else
 (f158.l4 k k s1 0).bind (Sum.elim (fun t4 => ret t4) (fun t5 => ret true))
def f158 (k : Nat) (s1 : ByteArray) := f158.step k some s1
def f158.w {R : Type} : Bool → (Res env → Option R) → Option R := fun t8 K => K ⟨.v (.c (.s (.bool t8))), [[]]⟩
theorem f158.wn (x : Bool) : ∃ res, ∀ {R : Type} (K : Res env → Option R), f158.w x K = K res := by
 exact ⟨_, fun _ => rfl⟩
def f158.hd (k : Nat) (ps_ : List (P2 env)) : Cl env :=
 pS Cl.no ps_ fun s1 ps_ => gE Cl.no ps_ <| { α := Bool, o := f158 k s1, w := f158.w, nat := fun x _ => f158.wn x }
def f158.e (k : Nat) : Entry env := ⟨f158.hd k, [], []⟩
def f158.X (k : Nat) : Ctx env := { X0 with L := lookE [(4, fun S => f158.l4.hd k S.ts S.m S.n)], keep := lookD [(4, [0, 3])], keepX := lookD [(4, [2])], span := lookN [(4, 288)] }
theorem f158.l4.nat {R : Type} (k : Nat) (rec_) (g : _ → Option R) (s2 a3) : (f158.l4.step k rec_ some s2 a3).bind g = f158.l4.step k (fun s2 a3 => (rec_ s2 a3).bind g) g s2 a3 := by
 simp only [f158.l4.step, bind_ite, bind_sum, oA, oS, oN]
theorem f158.l4.good (k : Nat) (s2 a3) : GoodL (f158.X k) (nthC 0 (loopsOf (bodyOf Try.f158))) (f158.l4.st s2 a3) { α := _, o := f158.l4 k k s2 a3, w := f158.l4.w } :=
 loop_good (ι := ByteArray × Int) (α := (Bool ⊕ (Unit))) (fun i => f158.l4.st i.1 i.2) (fun j i => f158.l4 k j i.1 i.2) f158.l4.w (fun rec_ ret i => f158.l4.step k (fun s2 a3 => rec_ (s2, a3)) ret i.1 i.2)
  (fun _ => rfl) (fun _ _ => rfl) (fun rec_ g i => f158.l4.nat k _ g i.1 i.2) (fun {R} i0 i rec_ K => by kernel_rfl) k (s2, a3)
theorem f158.l4.all (k : Nat) (S : St env) : GoodL (f158.X k) (nthC 0 (loopsOf (bodyOf Try.f158))) S (f158.l4.hd k S.ts S.m S.n) := by
 obtain ⟨ts_, m_, n_⟩ := S
 show GoodL _ _ _ (f158.l4.hd k ts_ m_ n_)
 unfold f158.l4.hd
 have hg_ := f158.l4.good k
 exact rdL
theorem f158.nat {R : Type} (k : Nat) (g : _ → Option R) (s1) : f158.step k g s1 = (f158 k s1).bind g := by
 simp only [f158, f158.step, bind_ite, bind_sum, oA, oS, oN]
theorem f158.ev (k : Nat) (s1 : ByteArray) : evF (f158.X k) (bodyOf Try.f158) Try.f158.ntmps Try.f158.results.toList [.v (.c (.s (.string s1)))] = f158.step k (fun x => f158.w x some) s1 := by kernel_rfl
theorem f158.hok (k : Nat) : HOK (f158.X k) (bodyOf Try.f158) where
 l := allP_mem (by exact ⟨ls_of (h0 := fun S => f158.l4.hd k S.ts S.m S.n) (by kernel_rfl) (f158.l4.all k), trivial⟩)
 j := allP_mem (by exact trivial)
 q := allP_mem (by exact trivial)
theorem f158.sound (k : Nat) : SoundC env Try.prog 158 ((f158.e k).F) := by
 intro ps_
 show GoodC _ _ _ ps_ (f158.hd k ps_)
 unfold f158.hd
 have hF_ := fun_sound envOK (cs_sound _ (by exact trivial)) (f158.hok k) Try.func158 rfl
 have hev_ := f158.ev k
 have hnat_ := fun g_ => f158.nat k (R := Res env) g_
 exact rdC
theorem f158.fnok : FnOK Try.prog 158 := fn_ok Try.func158 (by kernel_rfl) rfl
def f61.step {R : Type} (k : Nat) (ret : Bool → Option R) (a1 a2 a3 : Int) : Option R :=
 if (decide (a1 ≥ a2)) = true then
 ret (decide (a1 ≤ a3))
 else
 ret false
def f61 (k : Nat) (a1 a2 a3 : Int) := f61.step k some a1 a2 a3
def f61.w {R : Type} : Bool → (Res env → Option R) → Option R := fun t4 K => K ⟨.v (.c (.s (.bool t4))), [[], [], []]⟩
theorem f61.wn (x : Bool) : ∃ res, ∀ {R : Type} (K : Res env → Option R), f61.w x K = K res := by
 exact ⟨_, fun _ => rfl⟩
def f61.hd (k : Nat) (ps_ : List (P2 env)) : Cl env :=
 pI Cl.no ps_ fun a1 ps_ => pI Cl.no ps_ fun a2 ps_ => pI Cl.no ps_ fun a3 ps_ => gE Cl.no ps_ <| { α := Bool, o := f61 k a1 a2 a3, w := f61.w, nat := fun x _ => f61.wn x }
def f61.e (k : Nat) : Entry env := ⟨f61.hd k, [], []⟩
def f61.X (k : Nat) : Ctx env := X0
theorem f61.nat {R : Type} (k : Nat) (g : _ → Option R) (a1 a2 a3) : f61.step k g a1 a2 a3 = (f61 k a1 a2 a3).bind g := by
 simp only [f61, f61.step, bind_ite, bind_sum, oA, oS, oN]
theorem f61.ev (k : Nat) (a1 a2 a3 : Int) : evF (f61.X k) (bodyOf Try.f61) Try.f61.ntmps Try.f61.results.toList [.v (.c (.s (.int .i64 a1))), .v (.c (.s (.int .i64 a2))), .v (.c (.s (.int .i64 a3)))] = f61.step k (fun x => f61.w x some) a1 a2 a3 := by kernel_rfl
theorem f61.hok (k : Nat) : HOK (f61.X k) (bodyOf Try.f61) where
 l := allP_mem (by exact trivial)
 j := allP_mem (by exact trivial)
 q := allP_mem (by exact trivial)
theorem f61.sound (k : Nat) : SoundC env Try.prog 61 ((f61.e k).F) := by
 intro ps_
 show GoodC _ _ _ ps_ (f61.hd k ps_)
 unfold f61.hd
 have hF_ := fun_sound envOK (cs_sound _ (by exact trivial)) (f61.hok k) Try.func61 rfl
 have hev_ := f61.ev k
 have hnat_ := fun g_ => f61.nat k (R := Res env) g_
 exact rdC
theorem f61.fnok : FnOK Try.prog 61 := fn_ok Try.func61 (by kernel_rfl) rfl
end Go.Proofs.Ytepfpdaehcmblaa.B
