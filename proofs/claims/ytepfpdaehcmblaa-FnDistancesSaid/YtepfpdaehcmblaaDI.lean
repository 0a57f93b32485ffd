/- Written by a program of this session. -/
import Derived.Test.YtepfpdaehcmblaaDIa
namespace Go.Proofs.Ytepfpdaehcmblaa.B
open Go Go.B
set_option linter.unusedVariables false
set_option linter.unusedSimpArgs false
def f58.l7.step {R : Type} (k : Nat) (rec_ : Int → Int → (List S104) → (List (List S174)) → Int → (List (List Int)) → (List Int) → Option R) (ret : (Int × (List S104) × (List (List S174)) × Int × (List (List Int)) × (List Int)) → Option R) (a9 : Int) (a10 : Int) (xs11 : List S104) (xs12 : List (List S174)) (a13 : Int) (xs14 : List (List Int)) (xs15 : List Int) : Option R :=
  if (decide (a10 < a13)) = true then
 (f136 k a9 a10).bind fun t16 => if (List.length xs15 + List.length ([t16.1] : List Int)) * 8 ≤ maxN then
 rec_ a9 (IntKind.i64.wrap (a10 + (1 : Int))) xs11 xs12 a13 xs14 (xs15 ++ ([t16.1] : List Int))
 else none
 else
 ret (a9, xs11, xs12, a13, xs14, xs15)
def f58.l7 (k : Nat) : Nat → Int → Int → (List S104) → (List (List S174)) → Int → (List (List Int)) → (List Int) → Option (Int × (List S104) × (List (List S174)) × Int × (List (List Int)) × (List Int))
  | 0, _, _, _, _, _, _, _ => none
  | j + 1, a9, a10, xs11, xs12, a13, xs14, xs15 => f58.l7.step k (fun a9 a10 xs11 xs12 a13 xs14 xs15 => f58.l7 k j a9 a10 xs11 xs12 a13 xs14 xs15) some a9 a10 xs11 xs12 a13 xs14 xs15
def f58.l7.w {R : Type} : (Int × (List S104) × (List (List S174)) × Int × (List (List Int)) × (List Int)) → (Exit → St env → Option R) → Option R := fun t44 K => K (.exit 2) ⟨fullT [1, 3, 4, 5] 0 119 [.v (.c (.bp 1 0)), .v (.c (.row 33)), .v (.c (.s (.int .i64 t44.1))), .v (.c (.row 145))], [(1, .box [.imm 104 t44.2.1, .imm 171 t44.2.2.1, .s (.int .i64 t44.2.2.2.1)]), (33, .row true 32 t44.2.2.2.2.1), (145, .row true 3 t44.2.2.2.2.2)], 433⟩
def f58.l7.st (a9 : Int) (a10 : Int) (xs11 : List S104) (xs12 : List (List S174)) (a13 : Int) (xs14 : List (List Int)) (xs15 : List Int) : St env := ⟨fullT [1, 3, 4, 5, 6] 0 119 [.v (.c (.bp 1 0)), .v (.c (.row 33)), .v (.c (.s (.int .i64 a9))), .v (.c (.row 145)), .v (.c (.s (.int .i64 a10)))], [(1, .box [.imm 104 xs11, .imm 171 xs12, .s (.int .i64 a13)]), (33, .row true 32 xs14), (145, .row true 3 xs15)], 193⟩
def f58.l3.step {R : Type} (k : Nat) (rec_ : Int → (List S104) → (List (List S174)) → Int → (List (List Int)) → Option R) (ret : ((List S104) × (List (List S174)) × Int × (List (List Int))) → Option R) (a4 : Int) (xs5 : List S104) (xs6 : List (List S174)) (a7 : Int) (xs8 : List (List Int)) : Option R :=
  if (decide (a4 < a7)) = true then
 (f58.l7 k k a4 (0 : Int) xs5 xs6 a7 xs8 ([] : List Int)).bind fun t17 => if (List.length t17.2.2.2.2.1 + List.length ([t17.2.2.2.2.2] : List (List Int))) * 24 ≤ maxN then
 rec_ (IntKind.i64.wrap (t17.1 + (1 : Int))) t17.2.1 t17.2.2.1 t17.2.2.2.1 (t17.2.2.2.2.1 ++ ([t17.2.2.2.2.2] : List (List Int)))
 else none
 else
 ret (xs5, xs6, a7, xs8)
def f58.l3 (k : Nat) : Nat → Int → (List S104) → (List (List S174)) → Int → (List (List Int)) → Option ((List S104) × (List (List S174)) × Int × (List (List Int)))
  | 0, _, _, _, _, _ => none
  | j + 1, a4, xs5, xs6, a7, xs8 => f58.l3.step k (fun a4 xs5 xs6 a7 xs8 => f58.l3 k j a4 xs5 xs6 a7 xs8) some a4 xs5 xs6 a7 xs8
def f58.l3.w {R : Type} : ((List S104) × (List (List S174)) × Int × (List (List Int))) → (Exit → St env → Option R) → Option R := fun t45 K => K (.exit 0) ⟨fullT [1, 3] 0 119 [.v (.c (.bp 1 0)), .v (.c (.row 33))], [(1, .box [.imm 104 t45.1, .imm 171 t45.2.1, .s (.int .i64 t45.2.2.1)]), (33, .row true 32 t45.2.2.2)], 561⟩
def f58.l3.st (a4 : Int) (xs5 : List S104) (xs6 : List (List S174)) (a7 : Int) (xs8 : List (List Int)) : St env := ⟨fullT [1, 3, 4] 0 119 [.v (.c (.bp 1 0)), .v (.c (.row 33)), .v (.c (.s (.int .i64 a4)))], [(1, .box [.imm 104 xs5, .imm 171 xs6, .s (.int .i64 a7)]), (33, .row true 32 xs8)], 81⟩
def f58.l19.step {R : Type} (k : Nat) (rec_ : Int → Int → Int → (List S104) → (List (List S174)) → Int → (List (List Int)) → Int → Int → Int → Bool → Option R) (ret : (Int × Int × (List S104) × (List (List S174)) × Int × (List (List Int))) → Option R) (a30 : Int) (a31 : Int) (a32 : Int) (xs33 : List S104) (xs34 : List (List S174)) (a35 : Int) (xs36 : List (List Int)) (a37 : Int) (a38 : Int) (a39 : Int) (b40 : Bool) : Option R :=
  if b40 = true then
 if (decide (a32 < a35)) = true then
 if (0 : Int) ≤ a37 then
 if a37 < ((List.length xs36 : Nat) : Int) then
 if (0 : Int) ≤ a37 then
 if a37 < ((List.length xs36 : Nat) : Int) then
 if (0 : Int) ≤ a32 then
 if a32 < ((List.length (List.getD xs36 (Int.toNat a37) []) : Nat) : Int) then
 if (Int.toNat a32) < List.length (List.getD xs36 (Int.toNat a37) []) then
 if (0 : Int) ≤ a38 then
 if a38 < ((List.length xs36 : Nat) : Int) then
 if (0 : Int) ≤ a32 then
 if a32 < ((List.length (List.getD xs36 (Int.toNat a38) []) : Nat) : Int) then
 if (Int.toNat a32) < List.length (List.getD xs36 (Int.toNat a38) []) then
 if (0 : Int) ≤ a32 then
 if a32 < ((List.length (List.getD xs36 (Int.toNat a37) []) : Nat) : Int) then
 if (Int.toNat a32) < List.length (List.getD xs36 (Int.toNat a37) []) then
 if (0 : Int) ≤ a38 then
 if a38 < ((List.length (List.set xs36 (Int.toNat a37) (List.set (List.getD xs36 (Int.toNat a37) []) (Int.toNat a32) (if (IntKind.i64.wrap ((List.getD (List.getD xs36 (Int.toNat a38) []) (Int.toNat a32) (0 : Int)) + a39)) < (List.getD (List.getD xs36 (Int.toNat a37) []) (Int.toNat a32) (0 : Int)) then (IntKind.i64.wrap ((List.getD (List.getD xs36 (Int.toNat a38) []) (Int.toNat a32) (0 : Int)) + a39)) else (List.getD (List.getD xs36 (Int.toNat a37) []) (Int.toNat a32) (0 : Int))))) : Nat) : Int) then
 if (0 : Int) ≤ a38 then
 if a38 < ((List.length (List.set xs36 (Int.toNat a37) (List.set (List.getD xs36 (Int.toNat a37) []) (Int.toNat a32) (if (IntKind.i64.wrap ((List.getD (List.getD xs36 (Int.toNat a38) []) (Int.toNat a32) (0 : Int)) + a39)) < (List.getD (List.getD xs36 (Int.toNat a37) []) (Int.toNat a32) (0 : Int)) then (IntKind.i64.wrap ((List.getD (List.getD xs36 (Int.toNat a38) []) (Int.toNat a32) (0 : Int)) + a39)) else (List.getD (List.getD xs36 (Int.toNat a37) []) (Int.toNat a32) (0 : Int))))) : Nat) : Int) then
 if (0 : Int) ≤ a32 then
 if a32 < ((List.length (List.getD (List.set xs36 (Int.toNat a37) (List.set (List.getD xs36 (Int.toNat a37) []) (Int.toNat a32) (if (IntKind.i64.wrap ((List.getD (List.getD xs36 (Int.toNat a38) []) (Int.toNat a32) (0 : Int)) + a39)) < (List.getD (List.getD xs36 (Int.toNat a37) []) (Int.toNat a32) (0 : Int)) then (IntKind.i64.wrap ((List.getD (List.getD xs36 (Int.toNat a38) []) (Int.toNat a32) (0 : Int)) + a39)) else (List.getD (List.getD xs36 (Int.toNat a37) []) (Int.toNat a32) (0 : Int))))) (Int.toNat a38) []) : Nat) : Int) then
 if (Int.toNat a32) < List.length (List.getD (List.set xs36 (Int.toNat a37) (List.set (List.getD xs36 (Int.toNat a37) []) (Int.toNat a32) (if (IntKind.i64.wrap ((List.getD (List.getD xs36 (Int.toNat a38) []) (Int.toNat a32) (0 : Int)) + a39)) < (List.getD (List.getD xs36 (Int.toNat a37) []) (Int.toNat a32) (0 : Int)) then (IntKind.i64.wrap ((List.getD (List.getD xs36 (Int.toNat a38) []) (Int.toNat a32) (0 : Int)) + a39)) else (List.getD (List.getD xs36 (Int.toNat a37) []) (Int.toNat a32) (0 : Int))))) (Int.toNat a38) []) then
 if (0 : Int) ≤ a37 then
 if a37 < ((List.length (List.set xs36 (Int.toNat a37) (List.set (List.getD xs36 (Int.toNat a37) []) (Int.toNat a32) (if (IntKind.i64.wrap ((List.getD (List.getD xs36 (Int.toNat a38) []) (Int.toNat a32) (0 : Int)) + a39)) < (List.getD (List.getD xs36 (Int.toNat a37) []) (Int.toNat a32) (0 : Int)) then (IntKind.i64.wrap ((List.getD (List.getD xs36 (Int.toNat a38) []) (Int.toNat a32) (0 : Int)) + a39)) else (List.getD (List.getD xs36 (Int.toNat a37) []) (Int.toNat a32) (0 : Int))))) : Nat) : Int) then
 if (0 : Int) ≤ a32 then
 if a32 < ((List.length (List.getD (List.set xs36 (Int.toNat a37) (List.set (List.getD xs36 (Int.toNat a37) []) (Int.toNat a32) (if (IntKind.i64.wrap ((List.getD (List.getD xs36 (Int.toNat a38) []) (Int.toNat a32) (0 : Int)) + a39)) < (List.getD (List.getD xs36 (Int.toNat a37) []) (Int.toNat a32) (0 : Int)) then (IntKind.i64.wrap ((List.getD (List.getD xs36 (Int.toNat a38) []) (Int.toNat a32) (0 : Int)) + a39)) else (List.getD (List.getD xs36 (Int.toNat a37) []) (Int.toNat a32) (0 : Int))))) (Int.toNat a37) []) : Nat) : Int) then
 if (Int.toNat a32) < List.length (List.getD (List.set xs36 (Int.toNat a37) (List.set (List.getD xs36 (Int.toNat a37) []) (Int.toNat a32) (if (IntKind.i64.wrap ((List.getD (List.getD xs36 (Int.toNat a38) []) (Int.toNat a32) (0 : Int)) + a39)) < (List.getD (List.getD xs36 (Int.toNat a37) []) (Int.toNat a32) (0 : Int)) then (IntKind.i64.wrap ((List.getD (List.getD xs36 (Int.toNat a38) []) (Int.toNat a32) (0 : Int)) + a39)) else (List.getD (List.getD xs36 (Int.toNat a37) []) (Int.toNat a32) (0 : Int))))) (Int.toNat a37) []) then
 if (0 : Int) ≤ a32 then
 if a32 < ((List.length (List.getD (List.set xs36 (Int.toNat a37) (List.set (List.getD xs36 (Int.toNat a37) []) (Int.toNat a32) (if (IntKind.i64.wrap ((List.getD (List.getD xs36 (Int.toNat a38) []) (Int.toNat a32) (0 : Int)) + a39)) < (List.getD (List.getD xs36 (Int.toNat a37) []) (Int.toNat a32) (0 : Int)) then (IntKind.i64.wrap ((List.getD (List.getD xs36 (Int.toNat a38) []) (Int.toNat a32) (0 : Int)) + a39)) else (List.getD (List.getD xs36 (Int.toNat a37) []) (Int.toNat a32) (0 : Int))))) (Int.toNat a38) []) : Nat) : Int) then
 if (Int.toNat a32) < List.length (List.getD (List.set xs36 (Int.toNat a37) (List.set (List.getD xs36 (Int.toNat a37) []) (Int.toNat a32) (if (IntKind.i64.wrap ((List.getD (List.getD xs36 (Int.toNat a38) []) (Int.toNat a32) (0 : Int)) + a39)) < (List.getD (List.getD xs36 (Int.toNat a37) []) (Int.toNat a32) (0 : Int)) then (IntKind.i64.wrap ((List.getD (List.getD xs36 (Int.toNat a38) []) (Int.toNat a32) (0 : Int)) + a39)) else (List.getD (List.getD xs36 (Int.toNat a37) []) (Int.toNat a32) (0 : Int))))) (Int.toNat a38) []) then
 rec_ a30 a31 (IntKind.i64.wrap (a32 + (1 : Int))) xs33 xs34 a35 (List.set (List.set xs36 (Int.toNat a37) (List.set (List.getD xs36 (Int.toNat a37) []) (Int.toNat a32) (if (IntKind.i64.wrap ((List.getD (List.getD xs36 (Int.toNat a38) []) (Int.toNat a32) (0 : Int)) + a39)) < (List.getD (List.getD xs36 (Int.toNat a37) []) (Int.toNat a32) (0 : Int)) then (IntKind.i64.wrap ((List.getD (List.getD xs36 (Int.toNat a38) []) (Int.toNat a32) (0 : Int)) + a39)) else (List.getD (List.getD xs36 (Int.toNat a37) []) (Int.toNat a32) (0 : Int))))) (Int.toNat a38) (List.set (List.getD (List.set xs36 (Int.toNat a37) (List.set (List.getD xs36 (Int.toNat a37) []) (Int.toNat a32) (if (IntKind.i64.wrap ((List.getD (List.getD xs36 (Int.toNat a38) []) (Int.toNat a32) (0 : Int)) + a39)) < (List.getD (List.getD xs36 (Int.toNat a37) []) (Int.toNat a32) (0 : Int)) then (IntKind.i64.wrap ((List.getD (List.getD xs36 (Int.toNat a38) []) (Int.toNat a32) (0 : Int)) + a39)) else (List.getD (List.getD xs36 (Int.toNat a37) []) (Int.toNat a32) (0 : Int))))) (Int.toNat a38) []) (Int.toNat a32) (if (IntKind.i64.wrap ((List.getD (List.getD (List.set xs36 (Int.toNat a37) (List.set (List.getD xs36 (Int.toNat a37) []) (Int.toNat a32) (if (IntKind.i64.wrap ((List.getD (List.getD xs36 (Int.toNat a38) []) (Int.toNat a32) (0 : Int)) + a39)) < (List.getD (List.getD xs36 (Int.toNat a37) []) (Int.toNat a32) (0 : Int)) then (IntKind.i64.wrap ((List.getD (List.getD xs36 (Int.toNat a38) []) (Int.toNat a32) (0 : Int)) + a39)) else (List.getD (List.getD xs36 (Int.toNat a37) []) (Int.toNat a32) (0 : Int))))) (Int.toNat a37) []) (Int.toNat a32) (0 : Int)) + a39)) < (List.getD (List.getD (List.set xs36 (Int.toNat a37) (List.set (List.getD xs36 (Int.toNat a37) []) (Int.toNat a32) (if (IntKind.i64.wrap ((List.getD (List.getD xs36 (Int.toNat a38) []) (Int.toNat a32) (0 : Int)) + a39)) < (List.getD (List.getD xs36 (Int.toNat a37) []) (Int.toNat a32) (0 : Int)) then (IntKind.i64.wrap ((List.getD (List.getD xs36 (Int.toNat a38) []) (Int.toNat a32) (0 : Int)) + a39)) else (List.getD (List.getD xs36 (Int.toNat a37) []) (Int.toNat a32) (0 : Int))))) (Int.toNat a38) []) (Int.toNat a32) (0 : Int)) then (IntKind.i64.wrap ((List.getD (List.getD (List.set xs36 (Int.toNat a37) (List.set (List.getD xs36 (Int.toNat a37) []) (Int.toNat a32) (if (IntKind.i64.wrap ((List.getD (List.getD xs36 (Int.toNat a38) []) (Int.toNat a32) (0 : Int)) + a39)) < (List.getD (List.getD xs36 (Int.toNat a37) []) (Int.toNat a32) (0 : Int)) then (IntKind.i64.wrap ((List.getD (List.getD xs36 (Int.toNat a38) []) (Int.toNat a32) (0 : Int)) + a39)) else (List.getD (List.getD xs36 (Int.toNat a37) []) (Int.toNat a32) (0 : Int))))) (Int.toNat a37) []) (Int.toNat a32) (0 : Int)) + a39)) else (List.getD (List.getD (List.set xs36 (Int.toNat a37) (List.set (List.getD xs36 (Int.toNat a37) []) (Int.toNat a32) (if (IntKind.i64.wrap ((List.getD (List.getD xs36 (Int.toNat a38) []) (Int.toNat a32) (0 : Int)) + a39)) < (List.getD (List.getD xs36 (Int.toNat a37) []) (Int.toNat a32) (0 : Int)) then (IntKind.i64.wrap ((List.getD (List.getD xs36 (Int.toNat a38) []) (Int.toNat a32) (0 : Int)) + a39)) else (List.getD (List.getD xs36 (Int.toNat a37) []) (Int.toNat a32) (0 : Int))))) (Int.toNat a38) []) (Int.toNat a32) (0 : Int))))) a37 a38 a39 b40
 else none
 else none
 else none
 else none
 else none
 else none
 else none
 else none
 else none
 else none
 else none
 else none
 else none
 else none
 else none
 else none
 else none
 else none
 else none
 else none
 else none
 else none
 else none
 else none
 else none
 else none
 else none
 else none
 else none
 else none
 else
 ret (a30, a31, xs33, xs34, a35, xs36)
 else
 ret (a30, a31, xs33, xs34, a35, xs36)
def f58.l19 (k : Nat) : Nat → Int → Int → Int → (List S104) → (List (List S174)) → Int → (List (List Int)) → Int → Int → Int → Bool → Option (Int × Int × (List S104) × (List (List S174)) × Int × (List (List Int)))
  | 0, _, _, _, _, _, _, _, _, _, _, _ => none
  | j + 1, a30, a31, a32, xs33, xs34, a35, xs36, a37, a38, a39, b40 => f58.l19.step k (fun a30 a31 a32 xs33 xs34 a35 xs36 a37 a38 a39 b40 => f58.l19 k j a30 a31 a32 xs33 xs34 a35 xs36 a37 a38 a39 b40) some a30 a31 a32 xs33 xs34 a35 xs36 a37 a38 a39 b40
def f58.l19.w {R : Type} : (Int × Int × (List S104) × (List (List S174)) × Int × (List (List Int))) → (Exit → St env → Option R) → Option R := fun t46 K => K (.exit 8) ⟨fullT [1, 3, 7, 8] 0 119 [.v (.c (.bp 1 0)), .v (.c (.row 33)), .v (.c (.s (.int .i64 t46.1))), .v (.c (.s (.int .i64 t46.2.1)))], [(1, .box [.imm 104 t46.2.2.1, .imm 171 t46.2.2.2.1, .s (.int .i64 t46.2.2.2.2.1)]), (33, .row true 32 t46.2.2.2.2.2)], 1937⟩
def f58.l19.st (a30 : Int) (a31 : Int) (a32 : Int) (xs33 : List S104) (xs34 : List (List S174)) (a35 : Int) (xs36 : List (List Int)) (a37 : Int) (a38 : Int) (a39 : Int) (b40 : Bool) : St env := ⟨fullT [1, 3, 7, 8, 9, 10] 0 119 [.v (.c (.bp 1 0)), .v (.c (.row 33)), .v (.c (.s (.int .i64 a30))), .v (.c (.s (.int .i64 a31))), .v (.c (.bp 817 0)), .v (.c (.s (.int .i64 a32)))], [(1, .box [.imm 104 xs33, .imm 171 xs34, .s (.int .i64 a35)]), (33, .row true 32 xs36), (817, .box [.s (.int .i64 a37), .s (.int .i64 a38), .s (.int .i64 a39), .s (.bool b40)])], 865⟩
def f58.l15.step {R : Type} (k : Nat) (rec_ : Int → Int → (List S104) → (List (List S174)) → Int → (List (List Int)) → Option R) (ret : (Int × (List S104) × (List (List S174)) × Int × (List (List Int))) → Option R) (a24 : Int) (a25 : Int) (xs26 : List S104) (xs27 : List (List S174)) (a28 : Int) (xs29 : List (List Int)) : Option R :=
  if (decide (a25 < (((List.length xs26) : Nat) : Int))) = true then
 if (0 : Int) ≤ a25 then
 if a25 < ((List.length xs26 : Nat) : Int) then
 (f58.l19 k k a24 a25 (0 : Int) xs26 xs27 a28 xs29 (List.getD xs26 (Int.toNat a25) (⟨(0 : Int), (0 : Int), (0 : Int), false⟩ : S104)).f0 (List.getD xs26 (Int.toNat a25) (⟨(0 : Int), (0 : Int), (0 : Int), false⟩ : S104)).f1 (List.getD xs26 (Int.toNat a25) (⟨(0 : Int), (0 : Int), (0 : Int), false⟩ : S104)).f2 (List.getD xs26 (Int.toNat a25) (⟨(0 : Int), (0 : Int), (0 : Int), false⟩ : S104)).f3).bind fun t41 => rec_ t41.1 (IntKind.i64.wrap (t41.2.1 + (1 : Int))) t41.2.2.1 t41.2.2.2.1 t41.2.2.2.2.1 t41.2.2.2.2.2
 else none
 else none
 else
 ret (a24, xs26, xs27, a28, xs29)
def f58.l15 (k : Nat) : Nat → Int → Int → (List S104) → (List (List S174)) → Int → (List (List Int)) → Option (Int × (List S104) × (List (List S174)) × Int × (List (List Int)))
  | 0, _, _, _, _, _, _ => none
  | j + 1, a24, a25, xs26, xs27, a28, xs29 => f58.l15.step k (fun a24 a25 xs26 xs27 a28 xs29 => f58.l15 k j a24 a25 xs26 xs27 a28 xs29) some a24 a25 xs26 xs27 a28 xs29
def f58.l15.w {R : Type} : (Int × (List S104) × (List (List S174)) × Int × (List (List Int))) → (Exit → St env → Option R) → Option R := fun t47 K => K (.exit 6) ⟨fullT [1, 3, 7] 0 119 [.v (.c (.bp 1 0)), .v (.c (.row 33)), .v (.c (.s (.int .i64 t47.1)))], [(1, .box [.imm 104 t47.2.1, .imm 171 t47.2.2.1, .s (.int .i64 t47.2.2.2.1)]), (33, .row true 32 t47.2.2.2.2)], 1985⟩
def f58.l15.st (a24 : Int) (a25 : Int) (xs26 : List S104) (xs27 : List (List S174)) (a28 : Int) (xs29 : List (List Int)) : St env := ⟨fullT [1, 3, 7, 8] 0 119 [.v (.c (.bp 1 0)), .v (.c (.row 33)), .v (.c (.s (.int .i64 a24))), .v (.c (.s (.int .i64 a25)))], [(1, .box [.imm 104 xs26, .imm 171 xs27, .s (.int .i64 a28)]), (33, .row true 32 xs29)], 657⟩
def f58.l12.step {R : Type} (k : Nat) (rec_ : Int → (List S104) → (List (List S174)) → Int → (List (List Int)) → Option R) (ret : ((List (List Int))) → Option R) (a19 : Int) (xs20 : List S104) (xs21 : List (List S174)) (a22 : Int) (xs23 : List (List Int)) : Option R :=
  if (decide (a19 < a22)) = true then
 (f58.l15 k k a19 (0 : Int) xs20 xs21 a22 xs23).bind fun t42 => rec_ (IntKind.i64.wrap (t42.1 + (1 : Int))) t42.2.1 t42.2.2.1 t42.2.2.2.1 t42.2.2.2.2
 else
 ret xs23
def f58.l12 (k : Nat) : Nat → Int → (List S104) → (List (List S174)) → Int → (List (List Int)) → Option ((List (List Int)))
  | 0, _, _, _, _, _ => none
  | j + 1, a19, xs20, xs21, a22, xs23 => f58.l12.step k (fun a19 xs20 xs21 a22 xs23 => f58.l12 k j a19 xs20 xs21 a22 xs23) some a19 xs20 xs21 a22 xs23
def f58.l12.w {R : Type} : ((List (List Int))) → (Exit → St env → Option R) → Option R := fun t48 K => K (.exit 4) ⟨fullT [3] 0 119 [.v (.c (.row 33))], [(33, .row true 32 t48)], 2033⟩
def f58.l12.st (a19 : Int) (xs20 : List S104) (xs21 : List (List S174)) (a22 : Int) (xs23 : List (List Int)) : St env := ⟨fullT [1, 3, 7] 0 119 [.v (.c (.bp 1 0)), .v (.c (.row 33)), .v (.c (.s (.int .i64 a19)))], [(1, .box [.imm 104 xs20, .imm 171 xs21, .s (.int .i64 a22)]), (33, .row true 32 xs23)], 577⟩
def f58.l7.hd (k : Nat) (ts_ : List (AV env)) (mm_ : Mem env) (n_ : Nat) : LCl env :=
  gTs Ln [1, 3, 4, 5, 6] 119 ts_ fun l_ => tP Ln 1 l_ fun l_ => tR Ln 33 l_ fun l_ => tI Ln l_ fun a9 l_ => tR Ln 145 l_ fun l_ => tI Ln l_ fun a10 l_ => gE Ln l_ <| mBox Ln 1 mm_ fun c_ m_ => cM Ln 104 c_ fun xs11 c_ => cM Ln 171 c_ fun xs12 c_ => cI Ln c_ fun a13 c_ => gE Ln c_ <| mRow Ln 33 true 32 m_ fun xs14 m_ => mRow Ln 145 true 3 m_ fun xs15 m_ => gE Ln m_ <| gN Ln 193 n_ { α := Int × (List S104) × (List (List S174)) × Int × (List (List Int)) × (List Int), o := f58.l7 k k a9 a10 xs11 xs12 a13 xs14 xs15, w := f58.l7.w }
def f58.l3.hd (k : Nat) (ts_ : List (AV env)) (mm_ : Mem env) (n_ : Nat) : LCl env :=
  gTs Ln [1, 3, 4] 119 ts_ fun l_ => tP Ln 1 l_ fun l_ => tR Ln 33 l_ fun l_ => tI Ln l_ fun a4 l_ => gE Ln l_ <| mBox Ln 1 mm_ fun c_ m_ => cM Ln 104 c_ fun xs5 c_ => cM Ln 171 c_ fun xs6 c_ => cI Ln c_ fun a7 c_ => gE Ln c_ <| mRow Ln 33 true 32 m_ fun xs8 m_ => gE Ln m_ <| gN Ln 81 n_ { α := (List S104) × (List (List S174)) × Int × (List (List Int)), o := f58.l3 k k a4 xs5 xs6 a7 xs8, w := f58.l3.w }
def f58.l19.hd (k : Nat) (ts_ : List (AV env)) (mm_ : Mem env) (n_ : Nat) : LCl env :=
  gTs Ln [1, 3, 7, 8, 9, 10] 119 ts_ fun l_ => tP Ln 1 l_ fun l_ => tR Ln 33 l_ fun l_ => tI Ln l_ fun a30 l_ => tI Ln l_ fun a31 l_ => tP Ln 817 l_ fun l_ => tI Ln l_ fun a32 l_ => gE Ln l_ <| mBox Ln 1 mm_ fun c_ m_ => cM Ln 104 c_ fun xs33 c_ => cM Ln 171 c_ fun xs34 c_ => cI Ln c_ fun a35 c_ => gE Ln c_ <| mRow Ln 33 true 32 m_ fun xs36 m_ => mBox Ln 817 m_ fun c_ m_ => cI Ln c_ fun a37 c_ => cI Ln c_ fun a38 c_ => cI Ln c_ fun a39 c_ => cB Ln c_ fun b40 c_ => gE Ln c_ <| gE Ln m_ <| gN Ln 865 n_ { α := Int × Int × (List S104) × (List (List S174)) × Int × (List (List Int)), o := f58.l19 k k a30 a31 a32 xs33 xs34 a35 xs36 a37 a38 a39 b40, w := f58.l19.w }
def f58.l15.hd (k : Nat) (ts_ : List (AV env)) (mm_ : Mem env) (n_ : Nat) : LCl env :=
  gTs Ln [1, 3, 7, 8] 119 ts_ fun l_ => tP Ln 1 l_ fun l_ => tR Ln 33 l_ fun l_ => tI Ln l_ fun a24 l_ => tI Ln l_ fun a25 l_ => gE Ln l_ <| mBox Ln 1 mm_ fun c_ m_ => cM Ln 104 c_ fun xs26 c_ => cM Ln 171 c_ fun xs27 c_ => cI Ln c_ fun a28 c_ => gE Ln c_ <| mRow Ln 33 true 32 m_ fun xs29 m_ => gE Ln m_ <| gN Ln 657 n_ { α := Int × (List S104) × (List (List S174)) × Int × (List (List Int)), o := f58.l15 k k a24 a25 xs26 xs27 a28 xs29, w := f58.l15.w }
def f58.l12.hd (k : Nat) (ts_ : List (AV env)) (mm_ : Mem env) (n_ : Nat) : LCl env :=
  gTs Ln [1, 3, 7] 119 ts_ fun l_ => tP Ln 1 l_ fun l_ => tR Ln 33 l_ fun l_ => tI Ln l_ fun a19 l_ => gE Ln l_ <| mBox Ln 1 mm_ fun c_ m_ => cM Ln 104 c_ fun xs20 c_ => cM Ln 171 c_ fun xs21 c_ => cI Ln c_ fun a22 c_ => gE Ln c_ <| mRow Ln 33 true 32 m_ fun xs23 m_ => gE Ln m_ <| gN Ln 577 n_ { α := (List (List Int)), o := f58.l12 k k a19 xs20 xs21 a22 xs23, w := f58.l12.w }
def f58.step {R : Type} (k : Nat) (ret : ((List (List Int))) → Option R) (xs1 : List S104) (xs2 : List (List S174)) (a3 : Int) : Option R :=
  (f58.l3 k k (0 : Int) xs1 xs2 a3 ([] : List (List Int))).bind fun t18 => (f58.l12 k k (0 : Int) t18.1 t18.2.1 t18.2.2.1 t18.2.2.2).bind fun t43 => ret t43
def f58 (k : Nat) (xs1 : List S104) (xs2 : List (List S174)) (a3 : Int) : Option ((List (List Int))) := f58.step k some xs1 xs2 a3
def f58.w {R : Type} : ((List (List Int))) → (Res env → Option R) → Option R := fun t49 K => K ⟨.v (.c (.own true 32 t49)), [[]]⟩
theorem f58.wn (x : ((List (List Int)))) : ∃ res, ∀ {R : Type} (K : Res env → Option R), f58.w x K = K res := by
  exact ⟨_, fun _ => rfl⟩
def f58.hd (k : Nat) (ps_ : List (P2 env)) : Cl env :=
  gC Cl.no ps_ fun p_ ps_ => qG Cl.no p_ fun cs_ => dM Cl.no 104 cs_ fun xs1 cs_ => dM Cl.no 171 cs_ fun xs2 cs_ => dI Cl.no cs_ fun a3 cs_ => gE Cl.no cs_ <| gE Cl.no ps_ <| { α := (List (List Int)), o := f58 k xs1 xs2 a3, w := f58.w, nat := fun x _ => f58.wn x }
def f58.e (k : Nat) : Entry env := ⟨fun ps => f58.hd k (coer [[.rd 104, .rd 171, .no]] ps), [], []⟩
def f58.X (k : Nat) : Ctx env := { C := lookE [(136, f136.e k)], L := lookE [(7, fun S => f58.l7.hd k S.ts S.m S.n), (3, fun S => f58.l3.hd k S.ts S.m S.n), (19, fun S => f58.l19.hd k S.ts S.m S.n), (15, fun S => f58.l15.hd k S.ts S.m S.n), (12, fun S => f58.l12.hd k S.ts S.m S.n)], J := lookE [], keep := lookD [(7, [1, 3, 4, 5, 6]), (3, [1, 3, 4]), (19, [1, 3, 7, 8, 9, 10]), (15, [1, 3, 7, 8]), (12, [1, 3, 7])], keepX := lookD [(7, [1, 3, 4, 5]), (3, [1, 3]), (19, [1, 3, 7, 8]), (15, [1, 3, 7]), (12, [3])], span := lookN [(7, 240), (3, 480), (19, 1072), (15, 1328), (12, 1456)], eff := fun n => memN n [21, 22], prep := lookP [], np := 0, vb := lookN [(21, 2), (22, 2)], ve := lookN [(21, 1), (22, 1)] }
theorem f58.l7.nat {R : Type} (k : Nat) (rec_) (g : _ → Option R) (a9 a10 xs11 xs12 a13 xs14 xs15) : (f58.l7.step k rec_ some a9 a10 xs11 xs12 a13 xs14 xs15).bind g = f58.l7.step k (fun a9 a10 xs11 xs12 a13 xs14 xs15 => (rec_ a9 a10 xs11 xs12 a13 xs14 xs15).bind g) g a9 a10 xs11 xs12 a13 xs14 xs15 := by
  simp only [f58.l7.step, bind_ite, bind_sum, Option.bind_assoc, Option.bind_some, Option.bind_none]
theorem f58.l7.good (k : Nat) (a9 a10 xs11 xs12 a13 xs14 xs15) : GoodL (f58.X k) (nthC 1 (loopsOf (bodyOf Try.f58))) (f58.l7.st a9 a10 xs11 xs12 a13 xs14 xs15) { α := _, o := f58.l7 k k a9 a10 xs11 xs12 a13 xs14 xs15, w := f58.l7.w } :=
  loop_good (ι := Int × Int × (List S104) × (List (List S174)) × Int × (List (List Int)) × (List Int)) (α := (Int × (List S104) × (List (List S174)) × Int × (List (List Int)) × (List Int))) (fun i => f58.l7.st i.1 i.2.1 i.2.2.1 i.2.2.2.1 i.2.2.2.2.1 i.2.2.2.2.2.1 i.2.2.2.2.2.2) (fun j i => f58.l7 k j i.1 i.2.1 i.2.2.1 i.2.2.2.1 i.2.2.2.2.1 i.2.2.2.2.2.1 i.2.2.2.2.2.2) f58.l7.w (fun rec_ ret i => f58.l7.step k (fun a9 a10 xs11 xs12 a13 xs14 xs15 => rec_ (a9, a10, xs11, xs12, a13, xs14, xs15)) ret i.1 i.2.1 i.2.2.1 i.2.2.2.1 i.2.2.2.2.1 i.2.2.2.2.2.1 i.2.2.2.2.2.2)
    (fun _ => rfl) (fun _ _ => rfl) (fun rec_ g i => f58.l7.nat k _ g i.1 i.2.1 i.2.2.1 i.2.2.2.1 i.2.2.2.2.1 i.2.2.2.2.2.1 i.2.2.2.2.2.2) (fun {R} i0 i rec_ K => by kernel_rfl) k (a9, a10, xs11, xs12, a13, xs14, xs15)
theorem f58.l7.all (k : Nat) (S : St env) : GoodL (f58.X k) (nthC 1 (loopsOf (bodyOf Try.f58))) S (f58.l7.hd k S.ts S.m S.n) := by
  obtain ⟨ts_, m_, n_⟩ := S
  show GoodL _ _ _ (f58.l7.hd k ts_ m_ n_)
  unfold f58.l7.hd
  have hg_ := f58.l7.good k
  exact rdL
theorem f58.l3.nat {R : Type} (k : Nat) (rec_) (g : _ → Option R) (a4 xs5 xs6 a7 xs8) : (f58.l3.step k rec_ some a4 xs5 xs6 a7 xs8).bind g = f58.l3.step k (fun a4 xs5 xs6 a7 xs8 => (rec_ a4 xs5 xs6 a7 xs8).bind g) g a4 xs5 xs6 a7 xs8 := by
  simp only [f58.l3.step, bind_ite, bind_sum, Option.bind_assoc, Option.bind_some, Option.bind_none]
theorem f58.l3.good (k : Nat) (a4 xs5 xs6 a7 xs8) : GoodL (f58.X k) (nthC 0 (loopsOf (bodyOf Try.f58))) (f58.l3.st a4 xs5 xs6 a7 xs8) { α := _, o := f58.l3 k k a4 xs5 xs6 a7 xs8, w := f58.l3.w } :=
  loop_good (ι := Int × (List S104) × (List (List S174)) × Int × (List (List Int))) (α := ((List S104) × (List (List S174)) × Int × (List (List Int)))) (fun i => f58.l3.st i.1 i.2.1 i.2.2.1 i.2.2.2.1 i.2.2.2.2) (fun j i => f58.l3 k j i.1 i.2.1 i.2.2.1 i.2.2.2.1 i.2.2.2.2) f58.l3.w (fun rec_ ret i => f58.l3.step k (fun a4 xs5 xs6 a7 xs8 => rec_ (a4, xs5, xs6, a7, xs8)) ret i.1 i.2.1 i.2.2.1 i.2.2.2.1 i.2.2.2.2)
    (fun _ => rfl) (fun _ _ => rfl) (fun rec_ g i => f58.l3.nat k _ g i.1 i.2.1 i.2.2.1 i.2.2.2.1 i.2.2.2.2) (fun {R} i0 i rec_ K => by kernel_rfl) k (a4, xs5, xs6, a7, xs8)
theorem f58.l3.all (k : Nat) (S : St env) : GoodL (f58.X k) (nthC 0 (loopsOf (bodyOf Try.f58))) S (f58.l3.hd k S.ts S.m S.n) := by
  obtain ⟨ts_, m_, n_⟩ := S
  show GoodL _ _ _ (f58.l3.hd k ts_ m_ n_)
  unfold f58.l3.hd
  have hg_ := f58.l3.good k
  exact rdL
theorem f58.l19.nat {R : Type} (k : Nat) (rec_) (g : _ → Option R) (a30 a31 a32 xs33 xs34 a35 xs36 a37 a38 a39 b40) : (f58.l19.step k rec_ some a30 a31 a32 xs33 xs34 a35 xs36 a37 a38 a39 b40).bind g = f58.l19.step k (fun a30 a31 a32 xs33 xs34 a35 xs36 a37 a38 a39 b40 => (rec_ a30 a31 a32 xs33 xs34 a35 xs36 a37 a38 a39 b40).bind g) g a30 a31 a32 xs33 xs34 a35 xs36 a37 a38 a39 b40 := by
  simp only [f58.l19.step, bind_ite, bind_sum, Option.bind_assoc, Option.bind_some, Option.bind_none]
theorem f58.l19.good (k : Nat) (a30 a31 a32 xs33 xs34 a35 xs36 a37 a38 a39 b40) : GoodL (f58.X k) (nthC 4 (loopsOf (bodyOf Try.f58))) (f58.l19.st a30 a31 a32 xs33 xs34 a35 xs36 a37 a38 a39 b40) { α := _, o := f58.l19 k k a30 a31 a32 xs33 xs34 a35 xs36 a37 a38 a39 b40, w := f58.l19.w } :=
  loop_good (ι := Int × Int × Int × (List S104) × (List (List S174)) × Int × (List (List Int)) × Int × Int × Int × Bool) (α := (Int × Int × (List S104) × (List (List S174)) × Int × (List (List Int)))) (fun i => f58.l19.st i.1 i.2.1 i.2.2.1 i.2.2.2.1 i.2.2.2.2.1 i.2.2.2.2.2.1 i.2.2.2.2.2.2.1 i.2.2.2.2.2.2.2.1 i.2.2.2.2.2.2.2.2.1 i.2.2.2.2.2.2.2.2.2.1 i.2.2.2.2.2.2.2.2.2.2) (fun j i => f58.l19 k j i.1 i.2.1 i.2.2.1 i.2.2.2.1 i.2.2.2.2.1 i.2.2.2.2.2.1 i.2.2.2.2.2.2.1 i.2.2.2.2.2.2.2.1 i.2.2.2.2.2.2.2.2.1 i.2.2.2.2.2.2.2.2.2.1 i.2.2.2.2.2.2.2.2.2.2) f58.l19.w (fun rec_ ret i => f58.l19.step k (fun a30 a31 a32 xs33 xs34 a35 xs36 a37 a38 a39 b40 => rec_ (a30, a31, a32, xs33, xs34, a35, xs36, a37, a38, a39, b40)) ret i.1 i.2.1 i.2.2.1 i.2.2.2.1 i.2.2.2.2.1 i.2.2.2.2.2.1 i.2.2.2.2.2.2.1 i.2.2.2.2.2.2.2.1 i.2.2.2.2.2.2.2.2.1 i.2.2.2.2.2.2.2.2.2.1 i.2.2.2.2.2.2.2.2.2.2)
    (fun _ => rfl) (fun _ _ => rfl) (fun rec_ g i => f58.l19.nat k _ g i.1 i.2.1 i.2.2.1 i.2.2.2.1 i.2.2.2.2.1 i.2.2.2.2.2.1 i.2.2.2.2.2.2.1 i.2.2.2.2.2.2.2.1 i.2.2.2.2.2.2.2.2.1 i.2.2.2.2.2.2.2.2.2.1 i.2.2.2.2.2.2.2.2.2.2) (fun {R} i0 i rec_ K => by kernel_rfl) k (a30, a31, a32, xs33, xs34, a35, xs36, a37, a38, a39, b40)
theorem f58.l19.all (k : Nat) (S : St env) : GoodL (f58.X k) (nthC 4 (loopsOf (bodyOf Try.f58))) S (f58.l19.hd k S.ts S.m S.n) := by
  obtain ⟨ts_, m_, n_⟩ := S
  show GoodL _ _ _ (f58.l19.hd k ts_ m_ n_)
  unfold f58.l19.hd
  have hg_ := f58.l19.good k
  exact rdL
theorem f58.l15.nat {R : Type} (k : Nat) (rec_) (g : _ → Option R) (a24 a25 xs26 xs27 a28 xs29) : (f58.l15.step k rec_ some a24 a25 xs26 xs27 a28 xs29).bind g = f58.l15.step k (fun a24 a25 xs26 xs27 a28 xs29 => (rec_ a24 a25 xs26 xs27 a28 xs29).bind g) g a24 a25 xs26 xs27 a28 xs29 := by
  simp only [f58.l15.step, bind_ite, bind_sum, Option.bind_assoc, Option.bind_some, Option.bind_none]
theorem f58.l15.good (k : Nat) (a24 a25 xs26 xs27 a28 xs29) : GoodL (f58.X k) (nthC 3 (loopsOf (bodyOf Try.f58))) (f58.l15.st a24 a25 xs26 xs27 a28 xs29) { α := _, o := f58.l15 k k a24 a25 xs26 xs27 a28 xs29, w := f58.l15.w } :=
  loop_good (ι := Int × Int × (List S104) × (List (List S174)) × Int × (List (List Int))) (α := (Int × (List S104) × (List (List S174)) × Int × (List (List Int)))) (fun i => f58.l15.st i.1 i.2.1 i.2.2.1 i.2.2.2.1 i.2.2.2.2.1 i.2.2.2.2.2) (fun j i => f58.l15 k j i.1 i.2.1 i.2.2.1 i.2.2.2.1 i.2.2.2.2.1 i.2.2.2.2.2) f58.l15.w (fun rec_ ret i => f58.l15.step k (fun a24 a25 xs26 xs27 a28 xs29 => rec_ (a24, a25, xs26, xs27, a28, xs29)) ret i.1 i.2.1 i.2.2.1 i.2.2.2.1 i.2.2.2.2.1 i.2.2.2.2.2)
    (fun _ => rfl) (fun _ _ => rfl) (fun rec_ g i => f58.l15.nat k _ g i.1 i.2.1 i.2.2.1 i.2.2.2.1 i.2.2.2.2.1 i.2.2.2.2.2) (fun {R} i0 i rec_ K => by kernel_rfl) k (a24, a25, xs26, xs27, a28, xs29)
theorem f58.l15.all (k : Nat) (S : St env) : GoodL (f58.X k) (nthC 3 (loopsOf (bodyOf Try.f58))) S (f58.l15.hd k S.ts S.m S.n) := by
  obtain ⟨ts_, m_, n_⟩ := S
  show GoodL _ _ _ (f58.l15.hd k ts_ m_ n_)
  unfold f58.l15.hd
  have hg_ := f58.l15.good k
  exact rdL
theorem f58.l12.nat {R : Type} (k : Nat) (rec_) (g : _ → Option R) (a19 xs20 xs21 a22 xs23) : (f58.l12.step k rec_ some a19 xs20 xs21 a22 xs23).bind g = f58.l12.step k (fun a19 xs20 xs21 a22 xs23 => (rec_ a19 xs20 xs21 a22 xs23).bind g) g a19 xs20 xs21 a22 xs23 := by
  simp only [f58.l12.step, bind_ite, bind_sum, Option.bind_assoc, Option.bind_some, Option.bind_none]
theorem f58.l12.good (k : Nat) (a19 xs20 xs21 a22 xs23) : GoodL (f58.X k) (nthC 2 (loopsOf (bodyOf Try.f58))) (f58.l12.st a19 xs20 xs21 a22 xs23) { α := _, o := f58.l12 k k a19 xs20 xs21 a22 xs23, w := f58.l12.w } :=
  loop_good (ι := Int × (List S104) × (List (List S174)) × Int × (List (List Int))) (α := ((List (List Int)))) (fun i => f58.l12.st i.1 i.2.1 i.2.2.1 i.2.2.2.1 i.2.2.2.2) (fun j i => f58.l12 k j i.1 i.2.1 i.2.2.1 i.2.2.2.1 i.2.2.2.2) f58.l12.w (fun rec_ ret i => f58.l12.step k (fun a19 xs20 xs21 a22 xs23 => rec_ (a19, xs20, xs21, a22, xs23)) ret i.1 i.2.1 i.2.2.1 i.2.2.2.1 i.2.2.2.2)
    (fun _ => rfl) (fun _ _ => rfl) (fun rec_ g i => f58.l12.nat k _ g i.1 i.2.1 i.2.2.1 i.2.2.2.1 i.2.2.2.2) (fun {R} i0 i rec_ K => by kernel_rfl) k (a19, xs20, xs21, a22, xs23)
theorem f58.l12.all (k : Nat) (S : St env) : GoodL (f58.X k) (nthC 2 (loopsOf (bodyOf Try.f58))) S (f58.l12.hd k S.ts S.m S.n) := by
  obtain ⟨ts_, m_, n_⟩ := S
  show GoodL _ _ _ (f58.l12.hd k ts_ m_ n_)
  unfold f58.l12.hd
  have hg_ := f58.l12.good k
  exact rdL
theorem f58.nat {R : Type} (k : Nat) (g : _ → Option R) (xs1 xs2 a3) : f58.step k g xs1 xs2 a3 = (f58 k xs1 xs2 a3).bind g := by
  simp only [f58, f58.step, bind_ite, bind_sum, Option.bind_assoc, Option.bind_some, Option.bind_none]
theorem f58.ev (k : Nat) (xs1 : List S104) (xs2 : List (List S174)) (a3 : Int) : evF (f58.X k) (bodyOf Try.f58) Try.f58.ntmps Try.f58.results.toList [.g [.sl 104 xs1, .sl 171 xs2, .s (.int .i64 a3)]] = f58.step k (fun x => f58.w x some) xs1 xs2 a3 := by kernel_rfl
theorem f58.hok (k : Nat) : HOK (f58.X k) (bodyOf Try.f58) where
  l := allP_mem (by exact ⟨ls_of (h0 := fun S => f58.l3.hd k S.ts S.m S.n) (by kernel_rfl) (f58.l3.all k), ls_of (h0 := fun S => f58.l7.hd k S.ts S.m S.n) (by kernel_rfl) (f58.l7.all k), ls_of (h0 := fun S => f58.l12.hd k S.ts S.m S.n) (by kernel_rfl) (f58.l12.all k), ls_of (h0 := fun S => f58.l15.hd k S.ts S.m S.n) (by kernel_rfl) (f58.l15.all k), ls_of (h0 := fun S => f58.l19.hd k S.ts S.m S.n) (by kernel_rfl) (f58.l19.all k), trivial⟩)
  j := allP_mem (by exact trivial)
  q := allP_mem (by exact trivial)
theorem f58.sound0 (k : Nat) : SoundC env Try.prog 58 (f58.hd k) := by
  intro ps_
  show GoodC _ _ _ ps_ (f58.hd k ps_)
  unfold f58.hd
  have hF_ := fun_sound envOK (cs_sound _ (by exact ⟨⟨f136.sound k, f136.fnok⟩, trivial⟩)) (f58.hok k) Try.func58 rfl
  have hev_ := f58.ev k
  have hnat_ := fun g_ => f58.nat k (R := Res env) g_
  exact rdC
theorem f58.sound (k : Nat) : SoundC env Try.prog 58 (f58.e k).F := soundC_coer (f58.sound0 k) [[.rd 104, .rd 171, .no]]
theorem f58.fnok : FnOK Try.prog 58 := fn_ok Try.func58 (by kernel_rfl) rfl
def f11.step {R : Type} (k : Nat) (ret : ((List (List Int)) × Int) → Option R) (xs1 : List S104) (xs2 : List (List S174)) (a3 : Int) : Option R :=
  (f57 k xs1 xs2 a3).bind fun t4 => if (!t4) = true then
 ret (([] : List (List Int)), (1 : Int))
 else
 (f58 k xs1 xs2 a3).bind fun t5 => ret (t5, (0 : Int))
def f11 (k : Nat) (xs1 : List S104) (xs2 : List (List S174)) (a3 : Int) : Option ((List (List Int)) × Int) := f11.step k some xs1 xs2 a3
def f11.w {R : Type} : ((List (List Int)) × Int) → (Res env → Option R) → Option R := fun t6 K => K ⟨.tup [.c (.own true 32 t6.1), .c (.s (.int .i64 t6.2))], [[]]⟩
theorem f11.wn (x : ((List (List Int)) × Int)) : ∃ res, ∀ {R : Type} (K : Res env → Option R), f11.w x K = K res := by
  exact ⟨_, fun _ => rfl⟩
def f11.hd (k : Nat) (ps_ : List (P2 env)) : Cl env :=
  gC Cl.no ps_ fun p_ ps_ => qG Cl.no p_ fun cs_ => dM Cl.no 104 cs_ fun xs1 cs_ => dM Cl.no 171 cs_ fun xs2 cs_ => dI Cl.no cs_ fun a3 cs_ => gE Cl.no cs_ <| gE Cl.no ps_ <| { α := (List (List Int)) × Int, o := f11 k xs1 xs2 a3, w := f11.w, nat := fun x _ => f11.wn x }
def f11.e (k : Nat) : Entry env := ⟨fun ps => f11.hd k (coer [[.rd 104, .rd 171, .no]] ps), [], []⟩
def f11.X (k : Nat) : Ctx env := { C := lookE [(57, f57.e k), (58, f58.e k)], L := lookE [], J := lookE [], keep := lookD [], keepX := lookD [], span := lookN [], eff := fun n => memN n [], prep := lookP [], np := 0 }
theorem f11.nat {R : Type} (k : Nat) (g : _ → Option R) (xs1 xs2 a3) : f11.step k g xs1 xs2 a3 = (f11 k xs1 xs2 a3).bind g := by
  simp only [f11, f11.step, bind_ite, bind_sum, Option.bind_assoc, Option.bind_some, Option.bind_none]
theorem f11.ev (k : Nat) (xs1 : List S104) (xs2 : List (List S174)) (a3 : Int) : evF (f11.X k) (bodyOf Try.f11) Try.f11.ntmps Try.f11.results.toList [.g [.sl 104 xs1, .sl 171 xs2, .s (.int .i64 a3)]] = f11.step k (fun x => f11.w x some) xs1 xs2 a3 := by kernel_rfl
theorem f11.hok (k : Nat) : HOK (f11.X k) (bodyOf Try.f11) where
  l := allP_mem (by exact trivial)
  j := allP_mem (by exact trivial)
  q := allP_mem (by exact trivial)
theorem f11.sound0 (k : Nat) : SoundC env Try.prog 11 (f11.hd k) := by
  intro ps_
  show GoodC _ _ _ ps_ (f11.hd k ps_)
  unfold f11.hd
  have hF_ := fun_sound envOK (cs_sound _ (by exact ⟨⟨f57.sound k, f57.fnok⟩, ⟨f58.sound k, f58.fnok⟩, trivial⟩)) (f11.hok k) Try.func11 rfl
  have hev_ := f11.ev k
  have hnat_ := fun g_ => f11.nat k (R := Res env) g_
  exact rdC
theorem f11.sound (k : Nat) : SoundC env Try.prog 11 (f11.e k).F := soundC_coer (f11.sound0 k) [[.rd 104, .rd 171, .no]]
theorem f11.fnok : FnOK Try.prog 11 := fn_ok Try.func11 (by kernel_rfl) rfl
def f12.l4.step {R : Type} (k : Nat) (rec_ : (List Int) → (List Int) → Int → Option R) (ret : (Bool ⊕ (Unit)) → Option R) (xs3 : List Int) (xs4 : List Int) (a5 : Int) : Option R :=
  if (decide (a5 < (((List.length xs3) : Nat) : Int))) = true then
 if (0 : Int) ≤ a5 then
 if a5 < ((List.length xs3 : Nat) : Int) then
 if (0 : Int) ≤ a5 then
 if a5 < ((List.length xs4 : Nat) : Int) then
 if (decide ((List.getD xs3 (Int.toNat a5) (0 : Int)) ≠ (List.getD xs4 (Int.toNat a5) (0 : Int)))) = true then
 ret (.inl false)
 else
 rec_ xs3 xs4 (IntKind.i64.wrap (a5 + (1 : Int)))
 else none
 else none
 else none
 else none
 else
 ret (.inr ())
def f12.l4 (k : Nat) : Nat → (List Int) → (List Int) → Int → Option (Bool ⊕ (Unit))
  | 0, _, _, _ => none
  | j + 1, xs3, xs4, a5 => f12.l4.step k (fun xs3 xs4 a5 => f12.l4 k j xs3 xs4 a5) some xs3 xs4 a5
def f12.l4.w {R : Type} : (Bool ⊕ (Unit)) → (Exit → St env → Option R) → Option R := fun x K => Sum.elim (fun t8 => K .ret ⟨fullT [4] 0 26 [.v (.c (.s (.bool t8)))], [], 386⟩) (fun t9 => K (.exit 0) ⟨fullT [] 0 26 [], [], 386⟩) x
def f12.l4.st (xs3 : List Int) (xs4 : List Int) (a5 : Int) : St env := ⟨fullT [0, 1, 5] 0 26 [.v (.c (.imm 3 xs3)), .v (.c (.imm 3 xs4)), .v (.c (.s (.int .i64 a5)))], [], 114⟩
def f12.l4.hd (k : Nat) (ts_ : List (AV env)) (mm_ : Mem env) (n_ : Nat) : LCl env :=
  gTs Ln [0, 1, 5] 26 ts_ fun l_ => tM Ln 3 l_ fun xs3 l_ => tM Ln 3 l_ fun xs4 l_ => tI Ln l_ fun a5 l_ => gE Ln l_ <| gE Ln mm_ <| gN Ln 114 n_ { α := Bool ⊕ (Unit), o := f12.l4 k k xs3 xs4 a5, w := f12.l4.w }
def f12.step {R : Type} (k : Nat) (ret : Bool → Option R) (xs1 : List Int) (xs2 : List Int) : Option R :=
  if (decide ((((List.length xs1) : Nat) : Int) ≠ (((List.length xs2) : Nat) : Int))) = true then
 ret false
 else
 (f12.l4 k k xs1 xs2 (0 : Int)).bind (Sum.elim (fun t6 => ret t6) (fun t7 => ret true))
def f12 (k : Nat) (xs1 : List Int) (xs2 : List Int) : Option Bool := f12.step k some xs1 xs2
def f12.w {R : Type} : Bool → (Res env → Option R) → Option R := fun t10 K => K ⟨.v (.c (.s (.bool t10))), [[], []]⟩
theorem f12.wn (x : Bool) : ∃ res, ∀ {R : Type} (K : Res env → Option R), f12.w x K = K res := by
  exact ⟨_, fun _ => rfl⟩
def f12.hd (k : Nat) (ps_ : List (P2 env)) : Cl env :=
  pM Cl.no 3 ps_ fun xs1 ps_ => pM Cl.no 3 ps_ fun xs2 ps_ => gE Cl.no ps_ <| { α := Bool, o := f12 k xs1 xs2, w := f12.w, nat := fun x _ => f12.wn x }
def f12.e (k : Nat) : Entry env := ⟨fun ps => f12.hd k (coer [[.rd 3], [.rd 3]] ps), [], []⟩
def f12.X (k : Nat) : Ctx env := { C := lookE [], L := lookE [(4, fun S => f12.l4.hd k S.ts S.m S.n)], J := lookE [], keep := lookD [(4, [0, 1, 5])], keepX := lookD [(4, [4])], span := lookN [(4, 272)], eff := fun n => memN n [], prep := lookP [], np := 0 }
theorem f12.l4.nat {R : Type} (k : Nat) (rec_) (g : _ → Option R) (xs3 xs4 a5) : (f12.l4.step k rec_ some xs3 xs4 a5).bind g = f12.l4.step k (fun xs3 xs4 a5 => (rec_ xs3 xs4 a5).bind g) g xs3 xs4 a5 := by
  simp only [f12.l4.step, bind_ite, bind_sum, Option.bind_assoc, Option.bind_some, Option.bind_none]
theorem f12.l4.good (k : Nat) (xs3 xs4 a5) : GoodL (f12.X k) (nthC 0 (loopsOf (bodyOf Try.f12))) (f12.l4.st xs3 xs4 a5) { α := _, o := f12.l4 k k xs3 xs4 a5, w := f12.l4.w } :=
  loop_good (ι := (List Int) × (List Int) × Int) (α := (Bool ⊕ (Unit))) (fun i => f12.l4.st i.1 i.2.1 i.2.2) (fun j i => f12.l4 k j i.1 i.2.1 i.2.2) f12.l4.w (fun rec_ ret i => f12.l4.step k (fun xs3 xs4 a5 => rec_ (xs3, xs4, a5)) ret i.1 i.2.1 i.2.2)
    (fun _ => rfl) (fun _ _ => rfl) (fun rec_ g i => f12.l4.nat k _ g i.1 i.2.1 i.2.2) (fun {R} i0 i rec_ K => by kernel_rfl) k (xs3, xs4, a5)
theorem f12.l4.all (k : Nat) (S : St env) : GoodL (f12.X k) (nthC 0 (loopsOf (bodyOf Try.f12))) S (f12.l4.hd k S.ts S.m S.n) := by
  obtain ⟨ts_, m_, n_⟩ := S
  show GoodL _ _ _ (f12.l4.hd k ts_ m_ n_)
  unfold f12.l4.hd
  have hg_ := f12.l4.good k
  exact rdL
theorem f12.nat {R : Type} (k : Nat) (g : _ → Option R) (xs1 xs2) : f12.step k g xs1 xs2 = (f12 k xs1 xs2).bind g := by
  simp only [f12, f12.step, bind_ite, bind_sum, Option.bind_assoc, Option.bind_some, Option.bind_none]
theorem f12.ev (k : Nat) (xs1 : List Int) (xs2 : List Int) : evF (f12.X k) (bodyOf Try.f12) Try.f12.ntmps Try.f12.results.toList [.v (.c (.sl 3 xs1)), .v (.c (.sl 3 xs2))] = f12.step k (fun x => f12.w x some) xs1 xs2 := by kernel_rfl
theorem f12.hok (k : Nat) : HOK (f12.X k) (bodyOf Try.f12) where
  l := allP_mem (by exact ⟨ls_of (h0 := fun S => f12.l4.hd k S.ts S.m S.n) (by kernel_rfl) (f12.l4.all k), trivial⟩)
  j := allP_mem (by exact trivial)
  q := allP_mem (by exact trivial)
theorem f12.sound0 (k : Nat) : SoundC env Try.prog 12 (f12.hd k) := by
  intro ps_
  show GoodC _ _ _ ps_ (f12.hd k ps_)
  unfold f12.hd
  have hF_ := fun_sound envOK (cs_sound _ (by exact trivial)) (f12.hok k) Try.func12 rfl
  have hev_ := f12.ev k
  have hnat_ := fun g_ => f12.nat k (R := Res env) g_
  exact rdC
theorem f12.sound (k : Nat) : SoundC env Try.prog 12 (f12.e k).F := soundC_coer (f12.sound0 k) [[.rd 3], [.rd 3]]
theorem f12.fnok : FnOK Try.prog 12 := fn_ok Try.func12 (by kernel_rfl) rfl
def f3.l9.step {R : Type} (k : Nat) (rec_ : Int → Int → (List (List Int)) → Option R) (ret : Unit → Option R) (a5 : Int) (a6 : Int) (xs7 : List (List Int)) : Option R :=
  if (decide (a5 < a6)) = true then
 none
 else
 ret ()
def f3.l9 (k : Nat) : Nat → Int → Int → (List (List Int)) → Option Unit
  | 0, _, _, _ => none
  | j + 1, a5, a6, xs7 => f3.l9.step k (fun a5 a6 xs7 => f3.l9 k j a5 a6 xs7) some a5 a6 xs7
def f3.l9.w {R : Type} : Unit → (Exit → St env → Option R) → Option R := fun t72 K => K (.exit 0) ⟨fullT [] 0 113 [], [], 1873⟩
def f3.l9.st (a5 : Int) (a6 : Int) (xs7 : List (List Int)) : St env := ⟨fullT [3, 4, 6, 8] 0 113 [.v (.c (.bp 97 0)), .v (.c (.s (.slice none 0 0))), .v (.c (.row 257)), .v (.c (.s (.int .i64 a5)))], [(97, .box [.s (.slice none 0 0), .s (.slice none 0 0), .s (.int .i64 a6)]), (257, .row false 32 xs7)], 513⟩
def f3.l17.step {R : Type} (k : Nat) (rec_ : Int → Int → Int → Int → (List (List Int)) → (List (List Int)) → Option R) (ret : ((Bool × Int × Int × Int × (List (List Int)) × (List (List Int))) ⊕ (Int × Int × Int × (List (List Int)) × (List (List Int)))) → Option R) (a21 : Int) (a22 : Int) (a23 : Int) (a24 : Int) (xs25 : List (List Int)) (xs26 : List (List Int)) : Option R :=
  if (decide (a23 < a24)) = true then
 if (0 : Int) ≤ a21 then
 if a21 < ((List.length xs25 : Nat) : Int) then
 if (0 : Int) ≤ a22 then
 if a22 < ((List.length (List.getD xs25 (Int.toNat a21) []) : Nat) : Int) then
 if (0 : Int) ≤ a22 then
 if a22 < ((List.length xs25 : Nat) : Int) then
 if (0 : Int) ≤ a21 then
 if a21 < ((List.length (List.getD xs25 (Int.toNat a22) []) : Nat) : Int) then
 if (decide ((List.getD (List.getD xs25 (Int.toNat a21) []) (Int.toNat a22) (0 : Int)) ≠ (List.getD (List.getD xs25 (Int.toNat a22) []) (Int.toNat a21) (0 : Int)))) = false then
 if (0 : Int) ≤ a21 then
 if a21 < ((List.length xs25 : Nat) : Int) then
 if (0 : Int) ≤ a22 then
 if a22 < ((List.length (List.getD xs25 (Int.toNat a21) []) : Nat) : Int) then
 if (0 : Int) ≤ a21 then
 if a21 < ((List.length xs25 : Nat) : Int) then
 if (0 : Int) ≤ a23 then
 if a23 < ((List.length (List.getD xs25 (Int.toNat a21) []) : Nat) : Int) then
 if (0 : Int) ≤ a23 then
 if a23 < ((List.length xs25 : Nat) : Int) then
 if (0 : Int) ≤ a22 then
 if a22 < ((List.length (List.getD xs25 (Int.toNat a23) []) : Nat) : Int) then
 if (decide ((List.getD (List.getD xs25 (Int.toNat a21) []) (Int.toNat a22) (0 : Int)) > (IntKind.i64.wrap ((List.getD (List.getD xs25 (Int.toNat a21) []) (Int.toNat a23) (0 : Int)) + (List.getD (List.getD xs25 (Int.toNat a23) []) (Int.toNat a22) (0 : Int)))))) = true then
 ret (.inl (false, a21, a22, a24, xs25, xs26))
 else
 rec_ a21 a22 (IntKind.i64.wrap (a23 + (1 : Int))) a24 xs25 xs26
 else none
 else none
 else none
 else none
 else none
 else none
 else none
 else none
 else none
 else none
 else none
 else none
 else
 ret (.inl (false, a21, a22, a24, xs25, xs26))
 else none
 else none
 else none
 else none
 else none
 else none
 else none
 else none
 else
 ret (.inr (a21, a22, a24, xs25, xs26))
def f3.l17 (k : Nat) : Nat → Int → Int → Int → Int → (List (List Int)) → (List (List Int)) → Option ((Bool × Int × Int × Int × (List (List Int)) × (List (List Int))) ⊕ (Int × Int × Int × (List (List Int)) × (List (List Int))))
  | 0, _, _, _, _, _, _ => none
  | j + 1, a21, a22, a23, a24, xs25, xs26 => f3.l17.step k (fun a21 a22 a23 a24 xs25 xs26 => f3.l17 k j a21 a22 a23 a24 xs25 xs26) some a21 a22 a23 a24 xs25 xs26
def f3.l17.w {R : Type} : ((Bool × Int × Int × Int × (List (List Int)) × (List (List Int))) ⊕ (Int × Int × Int × (List (List Int)) × (List (List Int)))) → (Exit → St env → Option R) → Option R := fun x K => Sum.elim (fun t73 => K .ret ⟨fullT [2, 3, 4, 6, 8, 9] 0 113 [.v (.c (.s (.bool t73.1))), .v (.c (.bp 97 0)), .v (.c (.row 145)), .v (.c (.row 257)), .v (.c (.s (.int .i64 t73.2.1))), .v (.c (.s (.int .i64 t73.2.2.1)))], [(97, .box [.s (.slice none 0 0), .s (.slice none 0 0), .s (.int .i64 t73.2.2.2.1)]), (145, .row false 32 t73.2.2.2.2.1), (257, .row false 32 t73.2.2.2.2.2)], 1441⟩) (fun t74 => K (.exit 4) ⟨fullT [3, 4, 6, 8, 9] 0 113 [.v (.c (.bp 97 0)), .v (.c (.row 145)), .v (.c (.row 257)), .v (.c (.s (.int .i64 t74.1))), .v (.c (.s (.int .i64 t74.2.1)))], [(97, .box [.s (.slice none 0 0), .s (.slice none 0 0), .s (.int .i64 t74.2.2.1)]), (145, .row false 32 t74.2.2.2.1), (257, .row false 32 t74.2.2.2.2)], 1441⟩) x
def f3.l17.st (a21 : Int) (a22 : Int) (a23 : Int) (a24 : Int) (xs25 : List (List Int)) (xs26 : List (List Int)) : St env := ⟨fullT [3, 4, 6, 8, 9, 10] 0 113 [.v (.c (.bp 97 0)), .v (.c (.row 145)), .v (.c (.row 257)), .v (.c (.s (.int .i64 a21))), .v (.c (.s (.int .i64 a22))), .v (.c (.s (.int .i64 a23)))], [(97, .box [.s (.slice none 0 0), .s (.slice none 0 0), .s (.int .i64 a24)]), (145, .row false 32 xs25), (257, .row false 32 xs26)], 673⟩
def f3.l14.step {R : Type} (k : Nat) (rec_ : Int → Int → Int → (List (List Int)) → (List (List Int)) → Option R) (ret : ((Bool × Int × Int × (List (List Int)) × (List (List Int))) ⊕ (Int × Int × (List (List Int)) × (List (List Int)))) → Option R) (a16 : Int) (a17 : Int) (a18 : Int) (xs19 : List (List Int)) (xs20 : List (List Int)) : Option R :=
  if (decide (a17 < a18)) = true then
 (f3.l17 k k a16 a17 (0 : Int) a18 xs19 xs20).bind (Sum.elim (fun t27 => ret (.inl (t27.1, t27.2.1, t27.2.2.2.1, t27.2.2.2.2.1, t27.2.2.2.2.2))) (fun t28 => rec_ t28.1 (IntKind.i64.wrap (t28.2.1 + (1 : Int))) t28.2.2.1 t28.2.2.2.1 t28.2.2.2.2))
 else
 ret (.inr (a16, a18, xs19, xs20))
def f3.l14 (k : Nat) : Nat → Int → Int → Int → (List (List Int)) → (List (List Int)) → Option ((Bool × Int × Int × (List (List Int)) × (List (List Int))) ⊕ (Int × Int × (List (List Int)) × (List (List Int))))
  | 0, _, _, _, _, _ => none
  | j + 1, a16, a17, a18, xs19, xs20 => f3.l14.step k (fun a16 a17 a18 xs19 xs20 => f3.l14 k j a16 a17 a18 xs19 xs20) some a16 a17 a18 xs19 xs20
def f3.l14.w {R : Type} : ((Bool × Int × Int × (List (List Int)) × (List (List Int))) ⊕ (Int × Int × (List (List Int)) × (List (List Int)))) → (Exit → St env → Option R) → Option R := fun x K => Sum.elim (fun t75 => K .ret ⟨fullT [2, 3, 4, 6, 8] 0 113 [.v (.c (.s (.bool t75.1))), .v (.c (.bp 97 0)), .v (.c (.row 145)), .v (.c (.row 257)), .v (.c (.s (.int .i64 t75.2.1)))], [(97, .box [.s (.slice none 0 0), .s (.slice none 0 0), .s (.int .i64 t75.2.2.1)]), (145, .row false 32 t75.2.2.2.1), (257, .row false 32 t75.2.2.2.2)], 1489⟩) (fun t76 => K (.exit 2) ⟨fullT [3, 4, 6, 8] 0 113 [.v (.c (.bp 97 0)), .v (.c (.row 145)), .v (.c (.row 257)), .v (.c (.s (.int .i64 t76.1)))], [(97, .box [.s (.slice none 0 0), .s (.slice none 0 0), .s (.int .i64 t76.2.1)]), (145, .row false 32 t76.2.2.1), (257, .row false 32 t76.2.2.2)], 1489⟩) x
def f3.l14.st (a16 : Int) (a17 : Int) (a18 : Int) (xs19 : List (List Int)) (xs20 : List (List Int)) : St env := ⟨fullT [3, 4, 6, 8, 9] 0 113 [.v (.c (.bp 97 0)), .v (.c (.row 145)), .v (.c (.row 257)), .v (.c (.s (.int .i64 a16))), .v (.c (.s (.int .i64 a17)))], [(97, .box [.s (.slice none 0 0), .s (.slice none 0 0), .s (.int .i64 a18)]), (145, .row false 32 xs19), (257, .row false 32 xs20)], 593⟩
def f3.l9_1.step {R : Type} (k : Nat) (rec_ : Int → Int → (List (List Int)) → (List (List Int)) → Option R) (ret : (Bool ⊕ (Unit)) → Option R) (a11 : Int) (a12 : Int) (xs13 : List (List Int)) (xs14 : List (List Int)) : Option R :=
  if (decide (a11 < a12)) = true then
 if (0 : Int) ≤ a11 then
 if a11 < ((List.length xs13 : Nat) : Int) then
 if (0 : Int) ≤ a11 then
 if a11 < ((List.length xs14 : Nat) : Int) then
 (f12 k (List.getD xs13 (Int.toNat a11) []) (List.getD xs14 (Int.toNat a11) [])).bind fun t15 => if (!t15) = false then
 if (0 : Int) ≤ a11 then
 if a11 < ((List.length xs13 : Nat) : Int) then
 if (0 : Int) ≤ a11 then
 if a11 < ((List.length (List.getD xs13 (Int.toNat a11) []) : Nat) : Int) then
 if (decide ((List.getD (List.getD xs13 (Int.toNat a11) []) (Int.toNat a11) (0 : Int)) ≠ (0 : Int))) = true then
 ret (.inl false)
 else
 (f3.l14 k k a11 (0 : Int) a12 xs13 xs14).bind (Sum.elim (fun t29 => ret (.inl t29.1)) (fun t30 => rec_ (IntKind.i64.wrap (t30.1 + (1 : Int))) t30.2.1 t30.2.2.1 t30.2.2.2))
 else none
 else none
 else none
 else none
 else
 ret (.inl false)
 else none
 else none
 else none
 else none
 else
 ret (.inr ())
def f3.l9_1 (k : Nat) : Nat → Int → Int → (List (List Int)) → (List (List Int)) → Option (Bool ⊕ (Unit))
  | 0, _, _, _, _ => none
  | j + 1, a11, a12, xs13, xs14 => f3.l9_1.step k (fun a11 a12 xs13 xs14 => f3.l9_1 k j a11 a12 xs13 xs14) some a11 a12 xs13 xs14
def f3.l9_1.w {R : Type} : (Bool ⊕ (Unit)) → (Exit → St env → Option R) → Option R := fun x K => Sum.elim (fun t77 => K .ret ⟨fullT [2] 0 113 [.v (.c (.s (.bool t77)))], [], 1873⟩) (fun t78 => K (.exit 0) ⟨fullT [] 0 113 [], [], 1873⟩) x
def f3.l9_1.st (a11 : Int) (a12 : Int) (xs13 : List (List Int)) (xs14 : List (List Int)) : St env := ⟨fullT [3, 4, 6, 8] 0 113 [.v (.c (.bp 97 0)), .v (.c (.row 145)), .v (.c (.row 257)), .v (.c (.s (.int .i64 a11)))], [(97, .box [.s (.slice none 0 0), .s (.slice none 0 0), .s (.int .i64 a12)]), (145, .row false 32 xs13), (257, .row false 32 xs14)], 513⟩
def f3.l9_2.step {R : Type} (k : Nat) (rec_ : Int → (List S104) → (List (List S174)) → Int → (List (List Int)) → Option R) (ret : Unit → Option R) (a36 : Int) (xs37 : List S104) (xs38 : List (List S174)) (a39 : Int) (xs40 : List (List Int)) : Option R :=
  if (decide (a36 < a39)) = true then
 none
 else
 ret ()
def f3.l9_2 (k : Nat) : Nat → Int → (List S104) → (List (List S174)) → Int → (List (List Int)) → Option Unit
  | 0, _, _, _, _, _ => none
  | j + 1, a36, xs37, xs38, a39, xs40 => f3.l9_2.step k (fun a36 xs37 xs38 a39 xs40 => f3.l9_2 k j a36 xs37 xs38 a39 xs40) some a36 xs37 xs38 a39 xs40
def f3.l9_2.w {R : Type} : Unit → (Exit → St env → Option R) → Option R := fun t79 K => K (.exit 0) ⟨fullT [] 0 113 [], [], 1873⟩
def f3.l9_2.st (a36 : Int) (xs37 : List S104) (xs38 : List (List S174)) (a39 : Int) (xs40 : List (List Int)) : St env := ⟨fullT [3, 4, 6, 8] 0 113 [.v (.c (.bp 97 0)), .v (.c (.s (.slice none 0 0))), .v (.c (.row 257)), .v (.c (.s (.int .i64 a36)))], [(81, .row true 104 xs37), (82, .row true 171 xs38), (97, .box [.row 81, .row 82, .s (.int .i64 a39)]), (257, .row false 32 xs40)], 513⟩
def f3.l17_1.step {R : Type} (k : Nat) (rec_ : Int → Int → Int → (List S104) → (List (List S174)) → Int → (List (List Int)) → (List (List Int)) → Option R) (ret : ((Bool × Int × Int × (List S104) × (List (List S174)) × Int × (List (List Int)) × (List (List Int))) ⊕ (Int × Int × (List S104) × (List (List S174)) × Int × (List (List Int)) × (List (List Int)))) → Option R) (a58 : Int) (a59 : Int) (a60 : Int) (xs61 : List S104) (xs62 : List (List S174)) (a63 : Int) (xs64 : List (List Int)) (xs65 : List (List Int)) : Option R :=
  if (decide (a60 < a63)) = true then
 if (0 : Int) ≤ a58 then
 if a58 < ((List.length xs64 : Nat) : Int) then
 if (0 : Int) ≤ a59 then
 if a59 < ((List.length (List.getD xs64 (Int.toNat a58) []) : Nat) : Int) then
 if (0 : Int) ≤ a59 then
 if a59 < ((List.length xs64 : Nat) : Int) then
 if (0 : Int) ≤ a58 then
 if a58 < ((List.length (List.getD xs64 (Int.toNat a59) []) : Nat) : Int) then
 if (decide ((List.getD (List.getD xs64 (Int.toNat a58) []) (Int.toNat a59) (0 : Int)) ≠ (List.getD (List.getD xs64 (Int.toNat a59) []) (Int.toNat a58) (0 : Int)))) = false then
 if (0 : Int) ≤ a58 then
 if a58 < ((List.length xs64 : Nat) : Int) then
 if (0 : Int) ≤ a59 then
 if a59 < ((List.length (List.getD xs64 (Int.toNat a58) []) : Nat) : Int) then
 if (0 : Int) ≤ a58 then
 if a58 < ((List.length xs64 : Nat) : Int) then
 if (0 : Int) ≤ a60 then
 if a60 < ((List.length (List.getD xs64 (Int.toNat a58) []) : Nat) : Int) then
 if (0 : Int) ≤ a60 then
 if a60 < ((List.length xs64 : Nat) : Int) then
 if (0 : Int) ≤ a59 then
 if a59 < ((List.length (List.getD xs64 (Int.toNat a60) []) : Nat) : Int) then
 if (decide ((List.getD (List.getD xs64 (Int.toNat a58) []) (Int.toNat a59) (0 : Int)) > (IntKind.i64.wrap ((List.getD (List.getD xs64 (Int.toNat a58) []) (Int.toNat a60) (0 : Int)) + (List.getD (List.getD xs64 (Int.toNat a60) []) (Int.toNat a59) (0 : Int)))))) = true then
 ret (.inl (false, a58, a59, xs61, xs62, a63, xs64, xs65))
 else
 rec_ a58 a59 (IntKind.i64.wrap (a60 + (1 : Int))) xs61 xs62 a63 xs64 xs65
 else none
 else none
 else none
 else none
 else none
 else none
 else none
 else none
 else none
 else none
 else none
 else none
 else
 ret (.inl (false, a58, a59, xs61, xs62, a63, xs64, xs65))
 else none
 else none
 else none
 else none
 else none
 else none
 else none
 else none
 else
 ret (.inr (a58, a59, xs61, xs62, a63, xs64, xs65))
def f3.l17_1 (k : Nat) : Nat → Int → Int → Int → (List S104) → (List (List S174)) → Int → (List (List Int)) → (List (List Int)) → Option ((Bool × Int × Int × (List S104) × (List (List S174)) × Int × (List (List Int)) × (List (List Int))) ⊕ (Int × Int × (List S104) × (List (List S174)) × Int × (List (List Int)) × (List (List Int))))
  | 0, _, _, _, _, _, _, _, _ => none
  | j + 1, a58, a59, a60, xs61, xs62, a63, xs64, xs65 => f3.l17_1.step k (fun a58 a59 a60 xs61 xs62 a63 xs64 xs65 => f3.l17_1 k j a58 a59 a60 xs61 xs62 a63 xs64 xs65) some a58 a59 a60 xs61 xs62 a63 xs64 xs65
def f3.l17_1.w {R : Type} : ((Bool × Int × Int × (List S104) × (List (List S174)) × Int × (List (List Int)) × (List (List Int))) ⊕ (Int × Int × (List S104) × (List (List S174)) × Int × (List (List Int)) × (List (List Int)))) → (Exit → St env → Option R) → Option R := fun x K => Sum.elim (fun t80 => K .ret ⟨fullT [2, 3, 4, 6, 8, 9] 0 113 [.v (.c (.s (.bool t80.1))), .v (.c (.bp 97 0)), .v (.c (.row 145)), .v (.c (.row 257)), .v (.c (.s (.int .i64 t80.2.1))), .v (.c (.s (.int .i64 t80.2.2.1)))], [(81, .row true 104 t80.2.2.2.1), (82, .row true 171 t80.2.2.2.2.1), (97, .box [.row 81, .row 82, .s (.int .i64 t80.2.2.2.2.2.1)]), (145, .row false 32 t80.2.2.2.2.2.2.1), (257, .row false 32 t80.2.2.2.2.2.2.2)], 1441⟩) (fun t81 => K (.exit 4) ⟨fullT [3, 4, 6, 8, 9] 0 113 [.v (.c (.bp 97 0)), .v (.c (.row 145)), .v (.c (.row 257)), .v (.c (.s (.int .i64 t81.1))), .v (.c (.s (.int .i64 t81.2.1)))], [(81, .row true 104 t81.2.2.1), (82, .row true 171 t81.2.2.2.1), (97, .box [.row 81, .row 82, .s (.int .i64 t81.2.2.2.2.1)]), (145, .row false 32 t81.2.2.2.2.2.1), (257, .row false 32 t81.2.2.2.2.2.2)], 1441⟩) x
def f3.l17_1.st (a58 : Int) (a59 : Int) (a60 : Int) (xs61 : List S104) (xs62 : List (List S174)) (a63 : Int) (xs64 : List (List Int)) (xs65 : List (List Int)) : St env := ⟨fullT [3, 4, 6, 8, 9, 10] 0 113 [.v (.c (.bp 97 0)), .v (.c (.row 145)), .v (.c (.row 257)), .v (.c (.s (.int .i64 a58))), .v (.c (.s (.int .i64 a59))), .v (.c (.s (.int .i64 a60)))], [(81, .row true 104 xs61), (82, .row true 171 xs62), (97, .box [.row 81, .row 82, .s (.int .i64 a63)]), (145, .row false 32 xs64), (257, .row false 32 xs65)], 673⟩
def f3.l14_1.step {R : Type} (k : Nat) (rec_ : Int → Int → (List S104) → (List (List S174)) → Int → (List (List Int)) → (List (List Int)) → Option R) (ret : ((Bool × Int × (List S104) × (List (List S174)) × Int × (List (List Int)) × (List (List Int))) ⊕ (Int × (List S104) × (List (List S174)) × Int × (List (List Int)) × (List (List Int)))) → Option R) (a51 : Int) (a52 : Int) (xs53 : List S104) (xs54 : List (List S174)) (a55 : Int) (xs56 : List (List Int)) (xs57 : List (List Int)) : Option R :=
  if (decide (a52 < a55)) = true then
 (f3.l17_1 k k a51 a52 (0 : Int) xs53 xs54 a55 xs56 xs57).bind (Sum.elim (fun t66 => ret (.inl (t66.1, t66.2.1, t66.2.2.2.1, t66.2.2.2.2.1, t66.2.2.2.2.2.1, t66.2.2.2.2.2.2.1, t66.2.2.2.2.2.2.2))) (fun t67 => rec_ t67.1 (IntKind.i64.wrap (t67.2.1 + (1 : Int))) t67.2.2.1 t67.2.2.2.1 t67.2.2.2.2.1 t67.2.2.2.2.2.1 t67.2.2.2.2.2.2))
 else
 ret (.inr (a51, xs53, xs54, a55, xs56, xs57))
def f3.l14_1 (k : Nat) : Nat → Int → Int → (List S104) → (List (List S174)) → Int → (List (List Int)) → (List (List Int)) → Option ((Bool × Int × (List S104) × (List (List S174)) × Int × (List (List Int)) × (List (List Int))) ⊕ (Int × (List S104) × (List (List S174)) × Int × (List (List Int)) × (List (List Int))))
  | 0, _, _, _, _, _, _, _ => none
  | j + 1, a51, a52, xs53, xs54, a55, xs56, xs57 => f3.l14_1.step k (fun a51 a52 xs53 xs54 a55 xs56 xs57 => f3.l14_1 k j a51 a52 xs53 xs54 a55 xs56 xs57) some a51 a52 xs53 xs54 a55 xs56 xs57
def f3.l14_1.w {R : Type} : ((Bool × Int × (List S104) × (List (List S174)) × Int × (List (List Int)) × (List (List Int))) ⊕ (Int × (List S104) × (List (List S174)) × Int × (List (List Int)) × (List (List Int)))) → (Exit → St env → Option R) → Option R := fun x K => Sum.elim (fun t82 => K .ret ⟨fullT [2, 3, 4, 6, 8] 0 113 [.v (.c (.s (.bool t82.1))), .v (.c (.bp 97 0)), .v (.c (.row 145)), .v (.c (.row 257)), .v (.c (.s (.int .i64 t82.2.1)))], [(81, .row true 104 t82.2.2.1), (82, .row true 171 t82.2.2.2.1), (97, .box [.row 81, .row 82, .s (.int .i64 t82.2.2.2.2.1)]), (145, .row false 32 t82.2.2.2.2.2.1), (257, .row false 32 t82.2.2.2.2.2.2)], 1489⟩) (fun t83 => K (.exit 2) ⟨fullT [3, 4, 6, 8] 0 113 [.v (.c (.bp 97 0)), .v (.c (.row 145)), .v (.c (.row 257)), .v (.c (.s (.int .i64 t83.1)))], [(81, .row true 104 t83.2.1), (82, .row true 171 t83.2.2.1), (97, .box [.row 81, .row 82, .s (.int .i64 t83.2.2.2.1)]), (145, .row false 32 t83.2.2.2.2.1), (257, .row false 32 t83.2.2.2.2.2)], 1489⟩) x
def f3.l14_1.st (a51 : Int) (a52 : Int) (xs53 : List S104) (xs54 : List (List S174)) (a55 : Int) (xs56 : List (List Int)) (xs57 : List (List Int)) : St env := ⟨fullT [3, 4, 6, 8, 9] 0 113 [.v (.c (.bp 97 0)), .v (.c (.row 145)), .v (.c (.row 257)), .v (.c (.s (.int .i64 a51))), .v (.c (.s (.int .i64 a52)))], [(81, .row true 104 xs53), (82, .row true 171 xs54), (97, .box [.row 81, .row 82, .s (.int .i64 a55)]), (145, .row false 32 xs56), (257, .row false 32 xs57)], 593⟩
def f3.l9_3.step {R : Type} (k : Nat) (rec_ : Int → (List S104) → (List (List S174)) → Int → (List (List Int)) → (List (List Int)) → Option R) (ret : (Bool ⊕ (Unit)) → Option R) (a44 : Int) (xs45 : List S104) (xs46 : List (List S174)) (a47 : Int) (xs48 : List (List Int)) (xs49 : List (List Int)) : Option R :=
  if (decide (a44 < a47)) = true then
 if (0 : Int) ≤ a44 then
 if a44 < ((List.length xs48 : Nat) : Int) then
 if (0 : Int) ≤ a44 then
 if a44 < ((List.length xs49 : Nat) : Int) then
 (f12 k (List.getD xs48 (Int.toNat a44) []) (List.getD xs49 (Int.toNat a44) [])).bind fun t50 => if (!t50) = false then
 if (0 : Int) ≤ a44 then
 if a44 < ((List.length xs48 : Nat) : Int) then
 if (0 : Int) ≤ a44 then
 if a44 < ((List.length (List.getD xs48 (Int.toNat a44) []) : Nat) : Int) then
 if (decide ((List.getD (List.getD xs48 (Int.toNat a44) []) (Int.toNat a44) (0 : Int)) ≠ (0 : Int))) = true then
 ret (.inl false)
 else
 (f3.l14_1 k k a44 (0 : Int) xs45 xs46 a47 xs48 xs49).bind (Sum.elim (fun t68 => ret (.inl t68.1)) (fun t69 => rec_ (IntKind.i64.wrap (t69.1 + (1 : Int))) t69.2.1 t69.2.2.1 t69.2.2.2.1 t69.2.2.2.2.1 t69.2.2.2.2.2))
 else none
 else none
 else none
 else none
 else
 ret (.inl false)
 else none
 else none
 else none
 else none
 else
 ret (.inr ())
def f3.l9_3 (k : Nat) : Nat → Int → (List S104) → (List (List S174)) → Int → (List (List Int)) → (List (List Int)) → Option (Bool ⊕ (Unit))
  | 0, _, _, _, _, _, _ => none
  | j + 1, a44, xs45, xs46, a47, xs48, xs49 => f3.l9_3.step k (fun a44 xs45 xs46 a47 xs48 xs49 => f3.l9_3 k j a44 xs45 xs46 a47 xs48 xs49) some a44 xs45 xs46 a47 xs48 xs49
def f3.l9_3.w {R : Type} : (Bool ⊕ (Unit)) → (Exit → St env → Option R) → Option R := fun x K => Sum.elim (fun t84 => K .ret ⟨fullT [2] 0 113 [.v (.c (.s (.bool t84)))], [], 1873⟩) (fun t85 => K (.exit 0) ⟨fullT [] 0 113 [], [], 1873⟩) x
def f3.l9_3.st (a44 : Int) (xs45 : List S104) (xs46 : List (List S174)) (a47 : Int) (xs48 : List (List Int)) (xs49 : List (List Int)) : St env := ⟨fullT [3, 4, 6, 8] 0 113 [.v (.c (.bp 97 0)), .v (.c (.row 145)), .v (.c (.row 257)), .v (.c (.s (.int .i64 a44)))], [(81, .row true 104 xs45), (82, .row true 171 xs46), (97, .box [.row 81, .row 82, .s (.int .i64 a47)]), (145, .row false 32 xs48), (257, .row false 32 xs49)], 513⟩
def f3.l9_3.hd (k : Nat) (ts_ : List (AV env)) (mm_ : Mem env) (n_ : Nat) : LCl env :=
  gTs Ln [3, 4, 6, 8] 113 ts_ fun l_ => tP Ln 97 l_ fun l_ => tR Ln 145 l_ fun l_ => tR Ln 257 l_ fun l_ => tI Ln l_ fun a44 l_ => gE Ln l_ <| mRow Ln 81 true 104 mm_ fun xs45 m_ => mRow Ln 82 true 171 m_ fun xs46 m_ => mBox Ln 97 m_ fun c_ m_ => cR Ln 81 c_ fun c_ => cR Ln 82 c_ fun c_ => cI Ln c_ fun a47 c_ => gE Ln c_ <| mRow Ln 145 false 32 m_ fun xs48 m_ => mRow Ln 257 false 32 m_ fun xs49 m_ => gE Ln m_ <| gN Ln 513 n_ { α := Bool ⊕ (Unit), o := f3.l9_3 k k a44 xs45 xs46 a47 xs48 xs49, w := f3.l9_3.w }
def f3.l9_2.hd (k : Nat) (ts_ : List (AV env)) (mm_ : Mem env) (n_ : Nat) : LCl env :=
  gTs (f3.l9_3.hd k ts_ mm_ n_) [3, 4, 6, 8] 113 ts_ fun l_ => tP (f3.l9_3.hd k ts_ mm_ n_) 97 l_ fun l_ => gV (f3.l9_3.hd k ts_ mm_ n_) l_ fun a_ l_ => rV (f3.l9_3.hd k ts_ mm_ n_) a_ fun v_ => vNil (f3.l9_3.hd k ts_ mm_ n_) v_ <| tR (f3.l9_3.hd k ts_ mm_ n_) 257 l_ fun l_ => tI (f3.l9_3.hd k ts_ mm_ n_) l_ fun a36 l_ => gE (f3.l9_3.hd k ts_ mm_ n_) l_ <| mRow (f3.l9_3.hd k ts_ mm_ n_) 81 true 104 mm_ fun xs37 m_ => mRow (f3.l9_3.hd k ts_ mm_ n_) 82 true 171 m_ fun xs38 m_ => mBox (f3.l9_3.hd k ts_ mm_ n_) 97 m_ fun c_ m_ => cR (f3.l9_3.hd k ts_ mm_ n_) 81 c_ fun c_ => cR (f3.l9_3.hd k ts_ mm_ n_) 82 c_ fun c_ => cI (f3.l9_3.hd k ts_ mm_ n_) c_ fun a39 c_ => gE (f3.l9_3.hd k ts_ mm_ n_) c_ <| mRow (f3.l9_3.hd k ts_ mm_ n_) 257 false 32 m_ fun xs40 m_ => gE (f3.l9_3.hd k ts_ mm_ n_) m_ <| gN (f3.l9_3.hd k ts_ mm_ n_) 513 n_ { α := Unit, o := f3.l9_2 k k a36 xs37 xs38 a39 xs40, w := f3.l9_2.w }
def f3.l9_1.hd (k : Nat) (ts_ : List (AV env)) (mm_ : Mem env) (n_ : Nat) : LCl env :=
  gTs (f3.l9_2.hd k ts_ mm_ n_) [3, 4, 6, 8] 113 ts_ fun l_ => tP (f3.l9_2.hd k ts_ mm_ n_) 97 l_ fun l_ => tR (f3.l9_2.hd k ts_ mm_ n_) 145 l_ fun l_ => tR (f3.l9_2.hd k ts_ mm_ n_) 257 l_ fun l_ => tI (f3.l9_2.hd k ts_ mm_ n_) l_ fun a11 l_ => gE (f3.l9_2.hd k ts_ mm_ n_) l_ <| mBox (f3.l9_2.hd k ts_ mm_ n_) 97 mm_ fun c_ m_ => cN (f3.l9_2.hd k ts_ mm_ n_) c_ fun c_ => cN (f3.l9_2.hd k ts_ mm_ n_) c_ fun c_ => cI (f3.l9_2.hd k ts_ mm_ n_) c_ fun a12 c_ => gE (f3.l9_2.hd k ts_ mm_ n_) c_ <| mRow (f3.l9_2.hd k ts_ mm_ n_) 145 false 32 m_ fun xs13 m_ => mRow (f3.l9_2.hd k ts_ mm_ n_) 257 false 32 m_ fun xs14 m_ => gE (f3.l9_2.hd k ts_ mm_ n_) m_ <| gN (f3.l9_2.hd k ts_ mm_ n_) 513 n_ { α := Bool ⊕ (Unit), o := f3.l9_1 k k a11 a12 xs13 xs14, w := f3.l9_1.w }
def f3.l9.hd (k : Nat) (ts_ : List (AV env)) (mm_ : Mem env) (n_ : Nat) : LCl env :=
  gTs (f3.l9_1.hd k ts_ mm_ n_) [3, 4, 6, 8] 113 ts_ fun l_ => tP (f3.l9_1.hd k ts_ mm_ n_) 97 l_ fun l_ => gV (f3.l9_1.hd k ts_ mm_ n_) l_ fun a_ l_ => rV (f3.l9_1.hd k ts_ mm_ n_) a_ fun v_ => vNil (f3.l9_1.hd k ts_ mm_ n_) v_ <| tR (f3.l9_1.hd k ts_ mm_ n_) 257 l_ fun l_ => tI (f3.l9_1.hd k ts_ mm_ n_) l_ fun a5 l_ => gE (f3.l9_1.hd k ts_ mm_ n_) l_ <| mBox (f3.l9_1.hd k ts_ mm_ n_) 97 mm_ fun c_ m_ => cN (f3.l9_1.hd k ts_ mm_ n_) c_ fun c_ => cN (f3.l9_1.hd k ts_ mm_ n_) c_ fun c_ => cI (f3.l9_1.hd k ts_ mm_ n_) c_ fun a6 c_ => gE (f3.l9_1.hd k ts_ mm_ n_) c_ <| mRow (f3.l9_1.hd k ts_ mm_ n_) 257 false 32 m_ fun xs7 m_ => gE (f3.l9_1.hd k ts_ mm_ n_) m_ <| gN (f3.l9_1.hd k ts_ mm_ n_) 513 n_ { α := Unit, o := f3.l9 k k a5 a6 xs7, w := f3.l9.w }
def f3.l17_1.hd (k : Nat) (ts_ : List (AV env)) (mm_ : Mem env) (n_ : Nat) : LCl env :=
  gTs Ln [3, 4, 6, 8, 9, 10] 113 ts_ fun l_ => tP Ln 97 l_ fun l_ => tR Ln 145 l_ fun l_ => tR Ln 257 l_ fun l_ => tI Ln l_ fun a58 l_ => tI Ln l_ fun a59 l_ => tI Ln l_ fun a60 l_ => gE Ln l_ <| mRow Ln 81 true 104 mm_ fun xs61 m_ => mRow Ln 82 true 171 m_ fun xs62 m_ => mBox Ln 97 m_ fun c_ m_ => cR Ln 81 c_ fun c_ => cR Ln 82 c_ fun c_ => cI Ln c_ fun a63 c_ => gE Ln c_ <| mRow Ln 145 false 32 m_ fun xs64 m_ => mRow Ln 257 false 32 m_ fun xs65 m_ => gE Ln m_ <| gN Ln 673 n_ { α := (Bool × Int × Int × (List S104) × (List (List S174)) × Int × (List (List Int)) × (List (List Int))) ⊕ (Int × Int × (List S104) × (List (List S174)) × Int × (List (List Int)) × (List (List Int))), o := f3.l17_1 k k a58 a59 a60 xs61 xs62 a63 xs64 xs65, w := f3.l17_1.w }
def f3.l17.hd (k : Nat) (ts_ : List (AV env)) (mm_ : Mem env) (n_ : Nat) : LCl env :=
  gTs (f3.l17_1.hd k ts_ mm_ n_) [3, 4, 6, 8, 9, 10] 113 ts_ fun l_ => tP (f3.l17_1.hd k ts_ mm_ n_) 97 l_ fun l_ => tR (f3.l17_1.hd k ts_ mm_ n_) 145 l_ fun l_ => tR (f3.l17_1.hd k ts_ mm_ n_) 257 l_ fun l_ => tI (f3.l17_1.hd k ts_ mm_ n_) l_ fun a21 l_ => tI (f3.l17_1.hd k ts_ mm_ n_) l_ fun a22 l_ => tI (f3.l17_1.hd k ts_ mm_ n_) l_ fun a23 l_ => gE (f3.l17_1.hd k ts_ mm_ n_) l_ <| mBox (f3.l17_1.hd k ts_ mm_ n_) 97 mm_ fun c_ m_ => cN (f3.l17_1.hd k ts_ mm_ n_) c_ fun c_ => cN (f3.l17_1.hd k ts_ mm_ n_) c_ fun c_ => cI (f3.l17_1.hd k ts_ mm_ n_) c_ fun a24 c_ => gE (f3.l17_1.hd k ts_ mm_ n_) c_ <| mRow (f3.l17_1.hd k ts_ mm_ n_) 145 false 32 m_ fun xs25 m_ => mRow (f3.l17_1.hd k ts_ mm_ n_) 257 false 32 m_ fun xs26 m_ => gE (f3.l17_1.hd k ts_ mm_ n_) m_ <| gN (f3.l17_1.hd k ts_ mm_ n_) 673 n_ { α := (Bool × Int × Int × Int × (List (List Int)) × (List (List Int))) ⊕ (Int × Int × Int × (List (List Int)) × (List (List Int))), o := f3.l17 k k a21 a22 a23 a24 xs25 xs26, w := f3.l17.w }
def f3.l14_1.hd (k : Nat) (ts_ : List (AV env)) (mm_ : Mem env) (n_ : Nat) : LCl env :=
  gTs Ln [3, 4, 6, 8, 9] 113 ts_ fun l_ => tP Ln 97 l_ fun l_ => tR Ln 145 l_ fun l_ => tR Ln 257 l_ fun l_ => tI Ln l_ fun a51 l_ => tI Ln l_ fun a52 l_ => gE Ln l_ <| mRow Ln 81 true 104 mm_ fun xs53 m_ => mRow Ln 82 true 171 m_ fun xs54 m_ => mBox Ln 97 m_ fun c_ m_ => cR Ln 81 c_ fun c_ => cR Ln 82 c_ fun c_ => cI Ln c_ fun a55 c_ => gE Ln c_ <| mRow Ln 145 false 32 m_ fun xs56 m_ => mRow Ln 257 false 32 m_ fun xs57 m_ => gE Ln m_ <| gN Ln 593 n_ { α := (Bool × Int × (List S104) × (List (List S174)) × Int × (List (List Int)) × (List (List Int))) ⊕ (Int × (List S104) × (List (List S174)) × Int × (List (List Int)) × (List (List Int))), o := f3.l14_1 k k a51 a52 xs53 xs54 a55 xs56 xs57, w := f3.l14_1.w }
def f3.l14.hd (k : Nat) (ts_ : List (AV env)) (mm_ : Mem env) (n_ : Nat) : LCl env :=
  gTs (f3.l14_1.hd k ts_ mm_ n_) [3, 4, 6, 8, 9] 113 ts_ fun l_ => tP (f3.l14_1.hd k ts_ mm_ n_) 97 l_ fun l_ => tR (f3.l14_1.hd k ts_ mm_ n_) 145 l_ fun l_ => tR (f3.l14_1.hd k ts_ mm_ n_) 257 l_ fun l_ => tI (f3.l14_1.hd k ts_ mm_ n_) l_ fun a16 l_ => tI (f3.l14_1.hd k ts_ mm_ n_) l_ fun a17 l_ => gE (f3.l14_1.hd k ts_ mm_ n_) l_ <| mBox (f3.l14_1.hd k ts_ mm_ n_) 97 mm_ fun c_ m_ => cN (f3.l14_1.hd k ts_ mm_ n_) c_ fun c_ => cN (f3.l14_1.hd k ts_ mm_ n_) c_ fun c_ => cI (f3.l14_1.hd k ts_ mm_ n_) c_ fun a18 c_ => gE (f3.l14_1.hd k ts_ mm_ n_) c_ <| mRow (f3.l14_1.hd k ts_ mm_ n_) 145 false 32 m_ fun xs19 m_ => mRow (f3.l14_1.hd k ts_ mm_ n_) 257 false 32 m_ fun xs20 m_ => gE (f3.l14_1.hd k ts_ mm_ n_) m_ <| gN (f3.l14_1.hd k ts_ mm_ n_) 593 n_ { α := (Bool × Int × Int × (List (List Int)) × (List (List Int))) ⊕ (Int × Int × (List (List Int)) × (List (List Int))), o := f3.l14 k k a16 a17 a18 xs19 xs20, w := f3.l14.w }
def f3.step {R : Type} (k : Nat) (ret : Bool → Option R) (xs1 : List Int) : Option R :=
  if (decide ((((List.length xs1) : Nat) : Int) > (1048576 : Int))) = true then
 ret true
 else
 (f9 k xs1).bind (Sum.elim (fun t2 => (f10 k ([] : List S104) ([] : List (List S174)) t2).bind (Sum.elim (fun t3 => (f11 k ([] : List S104) ([] : List (List S174)) t2).bind fun t4 => if (decide (t3 ≠ (0 : Int))) = false then
 if (decide ((0 : Int) ≠ t2)) = true then
 ret false
 else
 (f3.l9 k k (0 : Int) t2 t4.1).bind fun t8 => ret true
 else
 ret false) (fun t9 => (f11 k ([] : List S104) ([] : List (List S174)) t2).bind fun t10 => if (decide (t9.2 ≠ (0 : Int))) = false then
 if (decide ((((List.length t9.1) : Nat) : Int) ≠ t2)) = true then
 ret false
 else
 (f3.l9_1 k k (0 : Int) t2 t9.1 t10.1).bind (Sum.elim (fun t31 => ret t31) (fun t32 => ret true))
 else
 ret false))) (fun t33 => (f10 k t33.1 t33.2.1 t33.2.2).bind (Sum.elim (fun t34 => (f11 k t33.1 t33.2.1 t33.2.2).bind fun t35 => if (decide (t34 ≠ (0 : Int))) = false then
 if (decide ((0 : Int) ≠ t33.2.2)) = true then
 ret false
 else
 (f3.l9_2 k k (0 : Int) t33.1 t33.2.1 t33.2.2 t35.1).bind fun t41 => ret true
 else
 ret false) (fun t42 => (f11 k t33.1 t33.2.1 t33.2.2).bind fun t43 => if (decide (t42.2 ≠ (0 : Int))) = false then
 if (decide ((((List.length t42.1) : Nat) : Int) ≠ t33.2.2)) = true then
 ret false
 else
 (f3.l9_3 k k (0 : Int) t33.1 t33.2.1 t33.2.2 t42.1 t43.1).bind (Sum.elim (fun t70 => ret t70) (fun t71 => ret true))
 else
 ret false))))
def f3 (k : Nat) (xs1 : List Int) : Option Bool := f3.step k some xs1
def f3.w {R : Type} : Bool → (Res env → Option R) → Option R := fun t86 K => K ⟨.v (.c (.s (.bool t86))), [[]]⟩
theorem f3.wn (x : Bool) : ∃ res, ∀ {R : Type} (K : Res env → Option R), f3.w x K = K res := by
  exact ⟨_, fun _ => rfl⟩
def f3.hd (k : Nat) (ps_ : List (P2 env)) : Cl env :=
  pM Cl.no 5 ps_ fun xs1 ps_ => gE Cl.no ps_ <| { α := Bool, o := f3 k xs1, w := f3.w, nat := fun x _ => f3.wn x }
def f3.e (k : Nat) : Entry env := ⟨fun ps => f3.hd k (coer [[.rd 5]] ps), [], []⟩
def f3.X (k : Nat) : Ctx env := { C := lookE [(9, f9.e k), (10, f10.e k), (11, f11.e k), (12, f12.e k)], L := lookE [(9, fun S => f3.l9.hd k S.ts S.m S.n), (17, fun S => f3.l17.hd k S.ts S.m S.n), (14, fun S => f3.l14.hd k S.ts S.m S.n)], J := lookE [], keep := lookD [(9, [3, 4, 6, 8]), (17, [3, 4, 6, 8, 9, 10]), (14, [3, 4, 6, 8, 9])], keepX := lookD [(9, [2]), (17, [2, 3, 4, 6, 8, 9]), (14, [2, 3, 4, 6, 8])], span := lookN [(9, 1360), (17, 768), (14, 896)], eff := fun n => memN n [11], prep := lookP [(9, [.weak 145, .weak 257])], np := 0 }
theorem f3.l9_3.nat {R : Type} (k : Nat) (rec_) (g : _ → Option R) (a44 xs45 xs46 a47 xs48 xs49) : (f3.l9_3.step k rec_ some a44 xs45 xs46 a47 xs48 xs49).bind g = f3.l9_3.step k (fun a44 xs45 xs46 a47 xs48 xs49 => (rec_ a44 xs45 xs46 a47 xs48 xs49).bind g) g a44 xs45 xs46 a47 xs48 xs49 := by
  simp only [f3.l9_3.step, bind_ite, bind_sum, Option.bind_assoc, Option.bind_some, Option.bind_none]
theorem f3.l9_3.good (k : Nat) (a44 xs45 xs46 a47 xs48 xs49) : GoodL (f3.X k) (nthC 0 (loopsOf (bodyOf Try.f3))) (f3.l9_3.st a44 xs45 xs46 a47 xs48 xs49) { α := _, o := f3.l9_3 k k a44 xs45 xs46 a47 xs48 xs49, w := f3.l9_3.w } :=
  loop_good (ι := Int × (List S104) × (List (List S174)) × Int × (List (List Int)) × (List (List Int))) (α := (Bool ⊕ (Unit))) (fun i => f3.l9_3.st i.1 i.2.1 i.2.2.1 i.2.2.2.1 i.2.2.2.2.1 i.2.2.2.2.2) (fun j i => f3.l9_3 k j i.1 i.2.1 i.2.2.1 i.2.2.2.1 i.2.2.2.2.1 i.2.2.2.2.2) f3.l9_3.w (fun rec_ ret i => f3.l9_3.step k (fun a44 xs45 xs46 a47 xs48 xs49 => rec_ (a44, xs45, xs46, a47, xs48, xs49)) ret i.1 i.2.1 i.2.2.1 i.2.2.2.1 i.2.2.2.2.1 i.2.2.2.2.2)
    (fun _ => rfl) (fun _ _ => rfl) (fun rec_ g i => f3.l9_3.nat k _ g i.1 i.2.1 i.2.2.1 i.2.2.2.1 i.2.2.2.2.1 i.2.2.2.2.2) (fun {R} i0 i rec_ K => by kernel_rfl) k (a44, xs45, xs46, a47, xs48, xs49)
theorem f3.l9_3.all (k : Nat) (S : St env) : GoodL (f3.X k) (nthC 0 (loopsOf (bodyOf Try.f3))) S (f3.l9_3.hd k S.ts S.m S.n) := by
  obtain ⟨ts_, m_, n_⟩ := S
  show GoodL _ _ _ (f3.l9_3.hd k ts_ m_ n_)
  unfold f3.l9_3.hd
  have hg_ := f3.l9_3.good k
  exact rdL
theorem f3.l9_2.nat {R : Type} (k : Nat) (rec_) (g : _ → Option R) (a36 xs37 xs38 a39 xs40) : (f3.l9_2.step k rec_ some a36 xs37 xs38 a39 xs40).bind g = f3.l9_2.step k (fun a36 xs37 xs38 a39 xs40 => (rec_ a36 xs37 xs38 a39 xs40).bind g) g a36 xs37 xs38 a39 xs40 := by
  simp only [f3.l9_2.step, bind_ite, bind_sum, Option.bind_assoc, Option.bind_some, Option.bind_none]
theorem f3.l9_2.good (k : Nat) (a36 xs37 xs38 a39 xs40) : GoodL (f3.X k) (nthC 0 (loopsOf (bodyOf Try.f3))) (f3.l9_2.st a36 xs37 xs38 a39 xs40) { α := _, o := f3.l9_2 k k a36 xs37 xs38 a39 xs40, w := f3.l9_2.w } :=
  loop_good (ι := Int × (List S104) × (List (List S174)) × Int × (List (List Int))) (α := Unit) (fun i => f3.l9_2.st i.1 i.2.1 i.2.2.1 i.2.2.2.1 i.2.2.2.2) (fun j i => f3.l9_2 k j i.1 i.2.1 i.2.2.1 i.2.2.2.1 i.2.2.2.2) f3.l9_2.w (fun rec_ ret i => f3.l9_2.step k (fun a36 xs37 xs38 a39 xs40 => rec_ (a36, xs37, xs38, a39, xs40)) ret i.1 i.2.1 i.2.2.1 i.2.2.2.1 i.2.2.2.2)
    (fun _ => rfl) (fun _ _ => rfl) (fun rec_ g i => f3.l9_2.nat k _ g i.1 i.2.1 i.2.2.1 i.2.2.2.1 i.2.2.2.2) (fun {R} i0 i rec_ K => by kernel_rfl) k (a36, xs37, xs38, a39, xs40)
theorem f3.l9_2.all (k : Nat) (S : St env) : GoodL (f3.X k) (nthC 0 (loopsOf (bodyOf Try.f3))) S (f3.l9_2.hd k S.ts S.m S.n) := by
  obtain ⟨ts_, m_, n_⟩ := S
  have hN_ := f3.l9_3.all k ⟨ts_, m_, n_⟩
  show GoodL _ _ _ (f3.l9_2.hd k ts_ m_ n_)
  unfold f3.l9_2.hd
  have hg_ := f3.l9_2.good k
  exact rdL
theorem f3.l9_1.nat {R : Type} (k : Nat) (rec_) (g : _ → Option R) (a11 a12 xs13 xs14) : (f3.l9_1.step k rec_ some a11 a12 xs13 xs14).bind g = f3.l9_1.step k (fun a11 a12 xs13 xs14 => (rec_ a11 a12 xs13 xs14).bind g) g a11 a12 xs13 xs14 := by
  simp only [f3.l9_1.step, bind_ite, bind_sum, Option.bind_assoc, Option.bind_some, Option.bind_none]
theorem f3.l9_1.good (k : Nat) (a11 a12 xs13 xs14) : GoodL (f3.X k) (nthC 0 (loopsOf (bodyOf Try.f3))) (f3.l9_1.st a11 a12 xs13 xs14) { α := _, o := f3.l9_1 k k a11 a12 xs13 xs14, w := f3.l9_1.w } :=
  loop_good (ι := Int × Int × (List (List Int)) × (List (List Int))) (α := (Bool ⊕ (Unit))) (fun i => f3.l9_1.st i.1 i.2.1 i.2.2.1 i.2.2.2) (fun j i => f3.l9_1 k j i.1 i.2.1 i.2.2.1 i.2.2.2) f3.l9_1.w (fun rec_ ret i => f3.l9_1.step k (fun a11 a12 xs13 xs14 => rec_ (a11, a12, xs13, xs14)) ret i.1 i.2.1 i.2.2.1 i.2.2.2)
    (fun _ => rfl) (fun _ _ => rfl) (fun rec_ g i => f3.l9_1.nat k _ g i.1 i.2.1 i.2.2.1 i.2.2.2) (fun {R} i0 i rec_ K => by kernel_rfl) k (a11, a12, xs13, xs14)
theorem f3.l9_1.all (k : Nat) (S : St env) : GoodL (f3.X k) (nthC 0 (loopsOf (bodyOf Try.f3))) S (f3.l9_1.hd k S.ts S.m S.n) := by
  obtain ⟨ts_, m_, n_⟩ := S
  have hN_ := f3.l9_2.all k ⟨ts_, m_, n_⟩
  show GoodL _ _ _ (f3.l9_1.hd k ts_ m_ n_)
  unfold f3.l9_1.hd
  have hg_ := f3.l9_1.good k
  exact rdL
theorem f3.l9.nat {R : Type} (k : Nat) (rec_) (g : _ → Option R) (a5 a6 xs7) : (f3.l9.step k rec_ some a5 a6 xs7).bind g = f3.l9.step k (fun a5 a6 xs7 => (rec_ a5 a6 xs7).bind g) g a5 a6 xs7 := by
  simp only [f3.l9.step, bind_ite, bind_sum, Option.bind_assoc, Option.bind_some, Option.bind_none]
theorem f3.l9.good (k : Nat) (a5 a6 xs7) : GoodL (f3.X k) (nthC 0 (loopsOf (bodyOf Try.f3))) (f3.l9.st a5 a6 xs7) { α := _, o := f3.l9 k k a5 a6 xs7, w := f3.l9.w } :=
  loop_good (ι := Int × Int × (List (List Int))) (α := Unit) (fun i => f3.l9.st i.1 i.2.1 i.2.2) (fun j i => f3.l9 k j i.1 i.2.1 i.2.2) f3.l9.w (fun rec_ ret i => f3.l9.step k (fun a5 a6 xs7 => rec_ (a5, a6, xs7)) ret i.1 i.2.1 i.2.2)
    (fun _ => rfl) (fun _ _ => rfl) (fun rec_ g i => f3.l9.nat k _ g i.1 i.2.1 i.2.2) (fun {R} i0 i rec_ K => by kernel_rfl) k (a5, a6, xs7)
theorem f3.l9.all (k : Nat) (S : St env) : GoodL (f3.X k) (nthC 0 (loopsOf (bodyOf Try.f3))) S (f3.l9.hd k S.ts S.m S.n) := by
  obtain ⟨ts_, m_, n_⟩ := S
  have hN_ := f3.l9_1.all k ⟨ts_, m_, n_⟩
  show GoodL _ _ _ (f3.l9.hd k ts_ m_ n_)
  unfold f3.l9.hd
  have hg_ := f3.l9.good k
  exact rdL
theorem f3.l17_1.nat {R : Type} (k : Nat) (rec_) (g : _ → Option R) (a58 a59 a60 xs61 xs62 a63 xs64 xs65) : (f3.l17_1.step k rec_ some a58 a59 a60 xs61 xs62 a63 xs64 xs65).bind g = f3.l17_1.step k (fun a58 a59 a60 xs61 xs62 a63 xs64 xs65 => (rec_ a58 a59 a60 xs61 xs62 a63 xs64 xs65).bind g) g a58 a59 a60 xs61 xs62 a63 xs64 xs65 := by
  simp only [f3.l17_1.step, bind_ite, bind_sum, Option.bind_assoc, Option.bind_some, Option.bind_none]
theorem f3.l17_1.good (k : Nat) (a58 a59 a60 xs61 xs62 a63 xs64 xs65) : GoodL (f3.X k) (nthC 2 (loopsOf (bodyOf Try.f3))) (f3.l17_1.st a58 a59 a60 xs61 xs62 a63 xs64 xs65) { α := _, o := f3.l17_1 k k a58 a59 a60 xs61 xs62 a63 xs64 xs65, w := f3.l17_1.w } :=
  loop_good (ι := Int × Int × Int × (List S104) × (List (List S174)) × Int × (List (List Int)) × (List (List Int))) (α := ((Bool × Int × Int × (List S104) × (List (List S174)) × Int × (List (List Int)) × (List (List Int))) ⊕ (Int × Int × (List S104) × (List (List S174)) × Int × (List (List Int)) × (List (List Int))))) (fun i => f3.l17_1.st i.1 i.2.1 i.2.2.1 i.2.2.2.1 i.2.2.2.2.1 i.2.2.2.2.2.1 i.2.2.2.2.2.2.1 i.2.2.2.2.2.2.2) (fun j i => f3.l17_1 k j i.1 i.2.1 i.2.2.1 i.2.2.2.1 i.2.2.2.2.1 i.2.2.2.2.2.1 i.2.2.2.2.2.2.1 i.2.2.2.2.2.2.2) f3.l17_1.w (fun rec_ ret i => f3.l17_1.step k (fun a58 a59 a60 xs61 xs62 a63 xs64 xs65 => rec_ (a58, a59, a60, xs61, xs62, a63, xs64, xs65)) ret i.1 i.2.1 i.2.2.1 i.2.2.2.1 i.2.2.2.2.1 i.2.2.2.2.2.1 i.2.2.2.2.2.2.1 i.2.2.2.2.2.2.2)
    (fun _ => rfl) (fun _ _ => rfl) (fun rec_ g i => f3.l17_1.nat k _ g i.1 i.2.1 i.2.2.1 i.2.2.2.1 i.2.2.2.2.1 i.2.2.2.2.2.1 i.2.2.2.2.2.2.1 i.2.2.2.2.2.2.2) (fun {R} i0 i rec_ K => by kernel_rfl) k (a58, a59, a60, xs61, xs62, a63, xs64, xs65)
theorem f3.l17_1.all (k : Nat) (S : St env) : GoodL (f3.X k) (nthC 2 (loopsOf (bodyOf Try.f3))) S (f3.l17_1.hd k S.ts S.m S.n) := by
  obtain ⟨ts_, m_, n_⟩ := S
  show GoodL _ _ _ (f3.l17_1.hd k ts_ m_ n_)
  unfold f3.l17_1.hd
  have hg_ := f3.l17_1.good k
  exact rdL
theorem f3.l17.nat {R : Type} (k : Nat) (rec_) (g : _ → Option R) (a21 a22 a23 a24 xs25 xs26) : (f3.l17.step k rec_ some a21 a22 a23 a24 xs25 xs26).bind g = f3.l17.step k (fun a21 a22 a23 a24 xs25 xs26 => (rec_ a21 a22 a23 a24 xs25 xs26).bind g) g a21 a22 a23 a24 xs25 xs26 := by
  simp only [f3.l17.step, bind_ite, bind_sum, Option.bind_assoc, Option.bind_some, Option.bind_none]
theorem f3.l17.good (k : Nat) (a21 a22 a23 a24 xs25 xs26) : GoodL (f3.X k) (nthC 2 (loopsOf (bodyOf Try.f3))) (f3.l17.st a21 a22 a23 a24 xs25 xs26) { α := _, o := f3.l17 k k a21 a22 a23 a24 xs25 xs26, w := f3.l17.w } :=
  loop_good (ι := Int × Int × Int × Int × (List (List Int)) × (List (List Int))) (α := ((Bool × Int × Int × Int × (List (List Int)) × (List (List Int))) ⊕ (Int × Int × Int × (List (List Int)) × (List (List Int))))) (fun i => f3.l17.st i.1 i.2.1 i.2.2.1 i.2.2.2.1 i.2.2.2.2.1 i.2.2.2.2.2) (fun j i => f3.l17 k j i.1 i.2.1 i.2.2.1 i.2.2.2.1 i.2.2.2.2.1 i.2.2.2.2.2) f3.l17.w (fun rec_ ret i => f3.l17.step k (fun a21 a22 a23 a24 xs25 xs26 => rec_ (a21, a22, a23, a24, xs25, xs26)) ret i.1 i.2.1 i.2.2.1 i.2.2.2.1 i.2.2.2.2.1 i.2.2.2.2.2)
    (fun _ => rfl) (fun _ _ => rfl) (fun rec_ g i => f3.l17.nat k _ g i.1 i.2.1 i.2.2.1 i.2.2.2.1 i.2.2.2.2.1 i.2.2.2.2.2) (fun {R} i0 i rec_ K => by kernel_rfl) k (a21, a22, a23, a24, xs25, xs26)
theorem f3.l17.all (k : Nat) (S : St env) : GoodL (f3.X k) (nthC 2 (loopsOf (bodyOf Try.f3))) S (f3.l17.hd k S.ts S.m S.n) := by
  obtain ⟨ts_, m_, n_⟩ := S
  have hN_ := f3.l17_1.all k ⟨ts_, m_, n_⟩
  show GoodL _ _ _ (f3.l17.hd k ts_ m_ n_)
  unfold f3.l17.hd
  have hg_ := f3.l17.good k
  exact rdL
theorem f3.l14_1.nat {R : Type} (k : Nat) (rec_) (g : _ → Option R) (a51 a52 xs53 xs54 a55 xs56 xs57) : (f3.l14_1.step k rec_ some a51 a52 xs53 xs54 a55 xs56 xs57).bind g = f3.l14_1.step k (fun a51 a52 xs53 xs54 a55 xs56 xs57 => (rec_ a51 a52 xs53 xs54 a55 xs56 xs57).bind g) g a51 a52 xs53 xs54 a55 xs56 xs57 := by
  simp only [f3.l14_1.step, bind_ite, bind_sum, Option.bind_assoc, Option.bind_some, Option.bind_none]
theorem f3.l14_1.good (k : Nat) (a51 a52 xs53 xs54 a55 xs56 xs57) : GoodL (f3.X k) (nthC 1 (loopsOf (bodyOf Try.f3))) (f3.l14_1.st a51 a52 xs53 xs54 a55 xs56 xs57) { α := _, o := f3.l14_1 k k a51 a52 xs53 xs54 a55 xs56 xs57, w := f3.l14_1.w } :=
  loop_good (ι := Int × Int × (List S104) × (List (List S174)) × Int × (List (List Int)) × (List (List Int))) (α := ((Bool × Int × (List S104) × (List (List S174)) × Int × (List (List Int)) × (List (List Int))) ⊕ (Int × (List S104) × (List (List S174)) × Int × (List (List Int)) × (List (List Int))))) (fun i => f3.l14_1.st i.1 i.2.1 i.2.2.1 i.2.2.2.1 i.2.2.2.2.1 i.2.2.2.2.2.1 i.2.2.2.2.2.2) (fun j i => f3.l14_1 k j i.1 i.2.1 i.2.2.1 i.2.2.2.1 i.2.2.2.2.1 i.2.2.2.2.2.1 i.2.2.2.2.2.2) f3.l14_1.w (fun rec_ ret i => f3.l14_1.step k (fun a51 a52 xs53 xs54 a55 xs56 xs57 => rec_ (a51, a52, xs53, xs54, a55, xs56, xs57)) ret i.1 i.2.1 i.2.2.1 i.2.2.2.1 i.2.2.2.2.1 i.2.2.2.2.2.1 i.2.2.2.2.2.2)
    (fun _ => rfl) (fun _ _ => rfl) (fun rec_ g i => f3.l14_1.nat k _ g i.1 i.2.1 i.2.2.1 i.2.2.2.1 i.2.2.2.2.1 i.2.2.2.2.2.1 i.2.2.2.2.2.2) (fun {R} i0 i rec_ K => by kernel_rfl) k (a51, a52, xs53, xs54, a55, xs56, xs57)
theorem f3.l14_1.all (k : Nat) (S : St env) : GoodL (f3.X k) (nthC 1 (loopsOf (bodyOf Try.f3))) S (f3.l14_1.hd k S.ts S.m S.n) := by
  obtain ⟨ts_, m_, n_⟩ := S
  show GoodL _ _ _ (f3.l14_1.hd k ts_ m_ n_)
  unfold f3.l14_1.hd
  have hg_ := f3.l14_1.good k
  exact rdL
theorem f3.l14.nat {R : Type} (k : Nat) (rec_) (g : _ → Option R) (a16 a17 a18 xs19 xs20) : (f3.l14.step k rec_ some a16 a17 a18 xs19 xs20).bind g = f3.l14.step k (fun a16 a17 a18 xs19 xs20 => (rec_ a16 a17 a18 xs19 xs20).bind g) g a16 a17 a18 xs19 xs20 := by
  simp only [f3.l14.step, bind_ite, bind_sum, Option.bind_assoc, Option.bind_some, Option.bind_none]
theorem f3.l14.good (k : Nat) (a16 a17 a18 xs19 xs20) : GoodL (f3.X k) (nthC 1 (loopsOf (bodyOf Try.f3))) (f3.l14.st a16 a17 a18 xs19 xs20) { α := _, o := f3.l14 k k a16 a17 a18 xs19 xs20, w := f3.l14.w } :=
  loop_good (ι := Int × Int × Int × (List (List Int)) × (List (List Int))) (α := ((Bool × Int × Int × (List (List Int)) × (List (List Int))) ⊕ (Int × Int × (List (List Int)) × (List (List Int))))) (fun i => f3.l14.st i.1 i.2.1 i.2.2.1 i.2.2.2.1 i.2.2.2.2) (fun j i => f3.l14 k j i.1 i.2.1 i.2.2.1 i.2.2.2.1 i.2.2.2.2) f3.l14.w (fun rec_ ret i => f3.l14.step k (fun a16 a17 a18 xs19 xs20 => rec_ (a16, a17, a18, xs19, xs20)) ret i.1 i.2.1 i.2.2.1 i.2.2.2.1 i.2.2.2.2)
    (fun _ => rfl) (fun _ _ => rfl) (fun rec_ g i => f3.l14.nat k _ g i.1 i.2.1 i.2.2.1 i.2.2.2.1 i.2.2.2.2) (fun {R} i0 i rec_ K => by kernel_rfl) k (a16, a17, a18, xs19, xs20)
theorem f3.l14.all (k : Nat) (S : St env) : GoodL (f3.X k) (nthC 1 (loopsOf (bodyOf Try.f3))) S (f3.l14.hd k S.ts S.m S.n) := by
  obtain ⟨ts_, m_, n_⟩ := S
  have hN_ := f3.l14_1.all k ⟨ts_, m_, n_⟩
  show GoodL _ _ _ (f3.l14.hd k ts_ m_ n_)
  unfold f3.l14.hd
  have hg_ := f3.l14.good k
  exact rdL
theorem f3.nat {R : Type} (k : Nat) (g : _ → Option R) (xs1) : f3.step k g xs1 = (f3 k xs1).bind g := by
  simp only [f3, f3.step, bind_ite, bind_sum, Option.bind_assoc, Option.bind_some, Option.bind_none]
theorem f3.ev (k : Nat) (xs1 : List Int) : evF (f3.X k) (bodyOf Try.f3) Try.f3.ntmps Try.f3.results.toList [.v (.c (.sl 5 xs1))] = f3.step k (fun x => f3.w x some) xs1 := by kernel_rfl
theorem f3.hok (k : Nat) : HOK (f3.X k) (bodyOf Try.f3) where
  l := allP_mem (by exact ⟨ls_of (h0 := fun S => f3.l9.hd k S.ts S.m S.n) (by kernel_rfl) (f3.l9.all k), ls_of (h0 := fun S => f3.l14.hd k S.ts S.m S.n) (by kernel_rfl) (f3.l14.all k), ls_of (h0 := fun S => f3.l17.hd k S.ts S.m S.n) (by kernel_rfl) (f3.l17.all k), trivial⟩)
  j := allP_mem (by exact trivial)
  q := allP_mem (by exact trivial)
theorem f3.sound0 (k : Nat) : SoundC env Try.prog 3 (f3.hd k) := by
  intro ps_
  show GoodC _ _ _ ps_ (f3.hd k ps_)
  unfold f3.hd
  have hF_ := fun_sound envOK (cs_sound _ (by exact ⟨⟨f9.sound k, f9.fnok⟩, ⟨f10.sound k, f10.fnok⟩, ⟨f11.sound k, f11.fnok⟩, ⟨f12.sound k, f12.fnok⟩, trivial⟩)) (f3.hok k) Try.func3 rfl
  have hev_ := f3.ev k
  have hnat_ := fun g_ => f3.nat k (R := Res env) g_
  exact rdC
theorem f3.sound (k : Nat) : SoundC env Try.prog 3 (f3.e k).F := soundC_coer (f3.sound0 k) [[.rd 5]]
theorem f3.says (k : Nat) (xs1 : List Int) (t87 : Bool) (h_ : f3 k xs1 = some t87) : SoundAt env Try.prog 3 [.v (.c (.sl 5 xs1))] ⟨.v (.c (.s (.bool t87))), [[]]⟩ :=
  fun_sound envOK (cs_sound _ (by exact ⟨⟨f9.sound k, f9.fnok⟩, ⟨f10.sound k, f10.fnok⟩, ⟨f11.sound k, f11.fnok⟩, ⟨f12.sound k, f12.fnok⟩, trivial⟩)) (f3.hok k) Try.func3 rfl _ _ (((f3.ev k xs1).trans (f3.nat k _ xs1)).trans (by rw [h_]; rfl))
theorem f3.fnok : FnOK Try.prog 3 := fn_ok Try.func3 (by kernel_rfl) rfl
end Go.Proofs.Ytepfpdaehcmblaa.B
