/- Written by a program of this session. -/
import Derived.Test.YtildepkogbcdpaaDIa
namespace Go.Proofs.Ytildepkogbcdpaa.B
open Go Go.B
set_option linter.unusedVariables false
set_option linter.unusedSimpArgs false
def f72.l9.step {R : Type} (k : Nat) (rec_ : Int → Int → Int → Int → Int → (List S146) → (List (List S142)) → Int → (List (List Int)) → Option R) (ret : (Int × Int × (List S146) × (List (List S142)) × Int × (List (List Int))) → Option R) (a11 : Int) (a12 : Int) (a13 : Int) (a14 : Int) (a15 : Int) (xs16 : List S146) (xs17 : List (List S142)) (a18 : Int) (xs19 : List (List Int)) : Option R :=
  if (decide (a15 < a14)) = true then
    if (decide (a15 ≠ a11)) = true then
      if (0 : Int) ≤ a11 then
        if a11 < ((List.length xs19 : Nat) : Int) then
          if (0 : Int) ≤ a15 then
            if a15 < ((List.length (List.getD xs19 (Int.toNat a11) []) : Nat) : Int) then
              if (Int.toNat a15) < List.length (List.getD xs19 (Int.toNat a11) []) then
                rec_ a11 a12 a13 a14 (IntKind.i64.wrap (a15 + (1 : Int))) xs16 xs17 a18 (List.set xs19 (Int.toNat a11) (List.set (List.getD xs19 (Int.toNat a11) []) (Int.toNat a15) (16 : Int)))
              else none
            else none
          else none
        else none
      else none
    else
      rec_ a11 a12 a13 a14 (IntKind.i64.wrap (a15 + (1 : Int))) xs16 xs17 a18 xs19
  else
    ret (a12, a13, xs16, xs17, a18, xs19)
def f72.l9 (k : Nat) : Nat → Int → Int → Int → Int → Int → (List S146) → (List (List S142)) → Int → (List (List Int)) → Option (Int × Int × (List S146) × (List (List S142)) × Int × (List (List Int)))
  | 0, _, _, _, _, _, _, _, _, _ => none
  | j + 1, a11, a12, a13, a14, a15, xs16, xs17, a18, xs19 => f72.l9.step k (fun a11 a12 a13 a14 a15 xs16 xs17 a18 xs19 => f72.l9 k j a11 a12 a13 a14 a15 xs16 xs17 a18 xs19) some a11 a12 a13 a14 a15 xs16 xs17 a18 xs19
def f72.l9.w {R : Type} : (Int × Int × (List S146) × (List (List S142)) × Int × (List (List Int))) → (Exit → St env → Option R) → Option R := fun t48 K => K (.exit 2) ⟨fullT [1, 4, 19, 20] 0 126 [.v (.c (.bp 1 0)), .v (.c (.row 129)), .v (.c (.s (.int .i64 t48.1))), .v (.c (.s (.int .i64 t48.2.1)))], [(1, .box [.imm 146 t48.2.2.1, .imm 140 t48.2.2.2.1, .s (.int .i64 t48.2.2.2.2.1)]), (129, .row true 33 t48.2.2.2.2.2)], 705⟩
def f72.l9.st (a11 : Int) (a12 : Int) (a13 : Int) (a14 : Int) (a15 : Int) (xs16 : List S146) (xs17 : List (List S142)) (a18 : Int) (xs19 : List (List Int)) : St env := ⟨fullT [1, 4, 5, 19, 20, 33, 34] 0 126 [.v (.c (.bp 1 0)), .v (.c (.row 129)), .v (.c (.s (.int .i64 a11))), .v (.c (.s (.int .i64 a12))), .v (.c (.s (.int .i64 a13))), .v (.c (.s (.int .i64 a14))), .v (.c (.s (.int .i64 a15)))], [(1, .box [.imm 146 xs16, .imm 140 xs17, .s (.int .i64 a18)]), (129, .row true 33 xs19)], 465⟩
def f72.l5.step {R : Type} (k : Nat) (rec_ : Int → Int → (List S146) → (List (List S142)) → Int → (List (List Int)) → Option R) (ret : ((List S146) × (List (List S142)) × Int × (List (List Int))) → Option R) (a5 : Int) (a6 : Int) (xs7 : List S146) (xs8 : List (List S142)) (a9 : Int) (xs10 : List (List Int)) : Option R :=
  if (decide (a6 < a5)) = true then
    if (0 : Int) ≤ a9 then
      if (Int.toNat a9) * 8 ≤ maxN then
        if (0 : Int) ≤ a6 then
          if a6 < ((List.length xs10 : Nat) : Int) then
            if (0 : Int) ≤ a6 then
              if a6 < ((List.length (List.set xs10 (Int.toNat a6) (List.replicate (Int.toNat a9) (0 : Int))) : Nat) : Int) then
                (f72.l9 k k a6 a5 a6 (((List.length (List.getD (List.set xs10 (Int.toNat a6) (List.replicate (Int.toNat a9) (0 : Int))) (Int.toNat a6) [])) : Nat) : Int) (0 : Int) xs7 xs8 a9 (List.set xs10 (Int.toNat a6) (List.replicate (Int.toNat a9) (0 : Int)))).bind fun t20 => rec_ t20.1 (IntKind.i64.wrap (t20.2.1 + (1 : Int))) t20.2.2.1 t20.2.2.2.1 t20.2.2.2.2.1 t20.2.2.2.2.2
              else none
            else none
          else none
        else none
      else none
    else none
  else
    ret (xs7, xs8, a9, xs10)
def f72.l5 (k : Nat) : Nat → Int → Int → (List S146) → (List (List S142)) → Int → (List (List Int)) → Option ((List S146) × (List (List S142)) × Int × (List (List Int)))
  | 0, _, _, _, _, _, _ => none
  | j + 1, a5, a6, xs7, xs8, a9, xs10 => f72.l5.step k (fun a5 a6 xs7 xs8 a9 xs10 => f72.l5 k j a5 a6 xs7 xs8 a9 xs10) some a5 a6 xs7 xs8 a9 xs10
def f72.l5.w {R : Type} : ((List S146) × (List (List S142)) × Int × (List (List Int))) → (Exit → St env → Option R) → Option R := fun t49 K => K (.exit 0) ⟨fullT [1, 4] 0 126 [.v (.c (.bp 1 0)), .v (.c (.row 129))], [(1, .box [.imm 146 t49.1, .imm 140 t49.2.1, .s (.int .i64 t49.2.2.1)]), (129, .row true 33 t49.2.2.2)], 737⟩
def f72.l5.st (a5 : Int) (a6 : Int) (xs7 : List S146) (xs8 : List (List S142)) (a9 : Int) (xs10 : List (List Int)) : St env := ⟨fullT [1, 4, 19, 20] 0 126 [.v (.c (.bp 1 0)), .v (.c (.row 129)), .v (.c (.s (.int .i64 a5))), .v (.c (.s (.int .i64 a6)))], [(1, .box [.imm 146 xs7, .imm 140 xs8, .s (.int .i64 a9)]), (129, .row true 33 xs10)], 209⟩
def f72.l16.step {R : Type} (k : Nat) (rec_ : (List S146) → Int → Int → (List (List Int)) → Option R) (ret : ((List (List Int))) → Option R) (xs22 : List S146) (a23 : Int) (a24 : Int) (xs25 : List (List Int)) : Option R :=
  if (decide (a24 < a23)) = true then
    if (0 : Int) ≤ a24 then
      if a24 < ((List.length xs22 : Nat) : Int) then
        if (List.getD xs22 (Int.toNat a24) (⟨(0 : Int), (0 : Int), (0 : Int), false⟩ : S146)).f3 = true then
          if (0 : Int) ≤ (List.getD xs22 (Int.toNat a24) (⟨(0 : Int), (0 : Int), (0 : Int), false⟩ : S146)).f0 then
            if (List.getD xs22 (Int.toNat a24) (⟨(0 : Int), (0 : Int), (0 : Int), false⟩ : S146)).f0 < ((List.length xs25 : Nat) : Int) then
              if (0 : Int) ≤ (List.getD xs22 (Int.toNat a24) (⟨(0 : Int), (0 : Int), (0 : Int), false⟩ : S146)).f1 then
                if (List.getD xs22 (Int.toNat a24) (⟨(0 : Int), (0 : Int), (0 : Int), false⟩ : S146)).f1 < ((List.length xs25 : Nat) : Int) then
                  if (0 : Int) ≤ (List.getD xs22 (Int.toNat a24) (⟨(0 : Int), (0 : Int), (0 : Int), false⟩ : S146)).f1 then
                    if (List.getD xs22 (Int.toNat a24) (⟨(0 : Int), (0 : Int), (0 : Int), false⟩ : S146)).f1 < ((List.length (List.getD xs25 (Int.toNat (List.getD xs22 (Int.toNat a24) (⟨(0 : Int), (0 : Int), (0 : Int), false⟩ : S146)).f0) []) : Nat) : Int) then
                      if (Int.toNat (List.getD xs22 (Int.toNat a24) (⟨(0 : Int), (0 : Int), (0 : Int), false⟩ : S146)).f1) < List.length (List.getD xs25 (Int.toNat (List.getD xs22 (Int.toNat a24) (⟨(0 : Int), (0 : Int), (0 : Int), false⟩ : S146)).f0) []) then
                        if (0 : Int) ≤ (List.getD xs22 (Int.toNat a24) (⟨(0 : Int), (0 : Int), (0 : Int), false⟩ : S146)).f0 then
                          if (List.getD xs22 (Int.toNat a24) (⟨(0 : Int), (0 : Int), (0 : Int), false⟩ : S146)).f0 < ((List.length (List.getD (List.set xs25 (Int.toNat (List.getD xs22 (Int.toNat a24) (⟨(0 : Int), (0 : Int), (0 : Int), false⟩ : S146)).f0) (List.set (List.getD xs25 (Int.toNat (List.getD xs22 (Int.toNat a24) (⟨(0 : Int), (0 : Int), (0 : Int), false⟩ : S146)).f0) []) (Int.toNat (List.getD xs22 (Int.toNat a24) (⟨(0 : Int), (0 : Int), (0 : Int), false⟩ : S146)).f1) (List.getD xs22 (Int.toNat a24) (⟨(0 : Int), (0 : Int), (0 : Int), false⟩ : S146)).f2)) (Int.toNat (List.getD xs22 (Int.toNat a24) (⟨(0 : Int), (0 : Int), (0 : Int), false⟩ : S146)).f1) []) : Nat) : Int) then
                            if (Int.toNat (List.getD xs22 (Int.toNat a24) (⟨(0 : Int), (0 : Int), (0 : Int), false⟩ : S146)).f0) < List.length (List.getD (List.set xs25 (Int.toNat (List.getD xs22 (Int.toNat a24) (⟨(0 : Int), (0 : Int), (0 : Int), false⟩ : S146)).f0) (List.set (List.getD xs25 (Int.toNat (List.getD xs22 (Int.toNat a24) (⟨(0 : Int), (0 : Int), (0 : Int), false⟩ : S146)).f0) []) (Int.toNat (List.getD xs22 (Int.toNat a24) (⟨(0 : Int), (0 : Int), (0 : Int), false⟩ : S146)).f1) (List.getD xs22 (Int.toNat a24) (⟨(0 : Int), (0 : Int), (0 : Int), false⟩ : S146)).f2)) (Int.toNat (List.getD xs22 (Int.toNat a24) (⟨(0 : Int), (0 : Int), (0 : Int), false⟩ : S146)).f1) []) then
                              rec_ xs22 a23 (IntKind.i64.wrap (a24 + (1 : Int))) (List.set (List.set xs25 (Int.toNat (List.getD xs22 (Int.toNat a24) (⟨(0 : Int), (0 : Int), (0 : Int), false⟩ : S146)).f0) (List.set (List.getD xs25 (Int.toNat (List.getD xs22 (Int.toNat a24) (⟨(0 : Int), (0 : Int), (0 : Int), false⟩ : S146)).f0) []) (Int.toNat (List.getD xs22 (Int.toNat a24) (⟨(0 : Int), (0 : Int), (0 : Int), false⟩ : S146)).f1) (List.getD xs22 (Int.toNat a24) (⟨(0 : Int), (0 : Int), (0 : Int), false⟩ : S146)).f2)) (Int.toNat (List.getD xs22 (Int.toNat a24) (⟨(0 : Int), (0 : Int), (0 : Int), false⟩ : S146)).f1) (List.set (List.getD (List.set xs25 (Int.toNat (List.getD xs22 (Int.toNat a24) (⟨(0 : Int), (0 : Int), (0 : Int), false⟩ : S146)).f0) (List.set (List.getD xs25 (Int.toNat (List.getD xs22 (Int.toNat a24) (⟨(0 : Int), (0 : Int), (0 : Int), false⟩ : S146)).f0) []) (Int.toNat (List.getD xs22 (Int.toNat a24) (⟨(0 : Int), (0 : Int), (0 : Int), false⟩ : S146)).f1) (List.getD xs22 (Int.toNat a24) (⟨(0 : Int), (0 : Int), (0 : Int), false⟩ : S146)).f2)) (Int.toNat (List.getD xs22 (Int.toNat a24) (⟨(0 : Int), (0 : Int), (0 : Int), false⟩ : S146)).f1) []) (Int.toNat (List.getD xs22 (Int.toNat a24) (⟨(0 : Int), (0 : Int), (0 : Int), false⟩ : S146)).f0) (List.getD xs22 (Int.toNat a24) (⟨(0 : Int), (0 : Int), (0 : Int), false⟩ : S146)).f2))
                            else none
                          else none
                        else none
                      else none
                    else none
                  else none
                else none
              else none
            else none
          else none
        else
          rec_ xs22 a23 (IntKind.i64.wrap (a24 + (1 : Int))) xs25
      else none
    else none
  else
    ret xs25
def f72.l16 (k : Nat) : Nat → (List S146) → Int → Int → (List (List Int)) → Option ((List (List Int)))
  | 0, _, _, _, _ => none
  | j + 1, xs22, a23, a24, xs25 => f72.l16.step k (fun xs22 a23 a24 xs25 => f72.l16 k j xs22 a23 a24 xs25) some xs22 a23 a24 xs25
def f72.l16.w {R : Type} : ((List (List Int))) → (Exit → St env → Option R) → Option R := fun t50 K => K (.exit 4) ⟨fullT [4] 0 126 [.v (.c (.row 129))], [(129, .row true 33 t50)], 1297⟩
def f72.l16.st (xs22 : List S146) (a23 : Int) (a24 : Int) (xs25 : List (List Int)) : St env := ⟨fullT [4, 49, 50, 51] 0 126 [.v (.c (.row 129)), .v (.c (.imm 146 xs22)), .v (.c (.s (.int .i64 a23))), .v (.c (.s (.int .i64 a24)))], [(129, .row true 33 xs25)], 801⟩
def f72.l28.step {R : Type} (k : Nat) (rec_ : Int → Int → Int → Int → Int → Int → Int → Int → (List (List Int)) → Option R) (ret : (Int × Int × Int × Int × Int × (List (List Int))) → Option R) (a36 : Int) (a37 : Int) (a38 : Int) (a39 : Int) (a40 : Int) (a41 : Int) (a42 : Int) (a43 : Int) (xs44 : List (List Int)) : Option R :=
  if (decide (a43 < a42)) = true then
    if (0 : Int) ≤ a37 then
      if a37 < ((List.length xs44 : Nat) : Int) then
        if (0 : Int) ≤ a37 then
          if a37 < ((List.length xs44 : Nat) : Int) then
            if (0 : Int) ≤ a43 then
              if a43 < ((List.length (List.getD xs44 (Int.toNat a37) []) : Nat) : Int) then
                if (Int.toNat a43) < List.length (List.getD xs44 (Int.toNat a37) []) then
                  if (0 : Int) ≤ a37 then
                    if a37 < ((List.length xs44 : Nat) : Int) then
                      if (0 : Int) ≤ a36 then
                        if a36 < ((List.length (List.getD xs44 (Int.toNat a37) []) : Nat) : Int) then
                          if (Int.toNat a36) < List.length (List.getD xs44 (Int.toNat a37) []) then
                            if (0 : Int) ≤ a36 then
                              if a36 < ((List.length xs44 : Nat) : Int) then
                                if (0 : Int) ≤ a43 then
                                  if a43 < ((List.length (List.getD xs44 (Int.toNat a36) []) : Nat) : Int) then
                                    if (Int.toNat a43) < List.length (List.getD xs44 (Int.toNat a36) []) then
                                      if (0 : Int) ≤ a43 then
                                        if a43 < ((List.length (List.getD xs44 (Int.toNat a37) []) : Nat) : Int) then
                                          if (Int.toNat a43) < List.length (List.getD xs44 (Int.toNat a37) []) then
                                            rec_ a36 a37 a38 a39 a40 a41 a42 (IntKind.i64.wrap (a43 + (1 : Int))) (List.set xs44 (Int.toNat a37) (List.set (List.getD xs44 (Int.toNat a37) []) (Int.toNat a43) (if (IntKind.i64.wrap ((List.getD (List.getD xs44 (Int.toNat a37) []) (Int.toNat a36) (0 : Int)) + (List.getD (List.getD xs44 (Int.toNat a36) []) (Int.toNat a43) (0 : Int)))) < (List.getD (List.getD xs44 (Int.toNat a37) []) (Int.toNat a43) (0 : Int)) then (IntKind.i64.wrap ((List.getD (List.getD xs44 (Int.toNat a37) []) (Int.toNat a36) (0 : Int)) + (List.getD (List.getD xs44 (Int.toNat a36) []) (Int.toNat a43) (0 : Int)))) else (List.getD (List.getD xs44 (Int.toNat a37) []) (Int.toNat a43) (0 : Int)))))
                                          else none
                                        else none
                                      else none
                                    else none
                                  else none
                                else none
                              else none
                            else none
                          else none
                        else none
                      else none
                    else none
                  else none
                else none
              else none
            else none
          else none
        else none
      else none
    else none
  else
    ret (a36, a38, a39, a40, a41, xs44)
def f72.l28 (k : Nat) : Nat → Int → Int → Int → Int → Int → Int → Int → Int → (List (List Int)) → Option (Int × Int × Int × Int × Int × (List (List Int)))
  | 0, _, _, _, _, _, _, _, _, _ => none
  | j + 1, a36, a37, a38, a39, a40, a41, a42, a43, xs44 => f72.l28.step k (fun a36 a37 a38 a39 a40 a41 a42 a43 xs44 => f72.l28 k j a36 a37 a38 a39 a40 a41 a42 a43 xs44) some a36 a37 a38 a39 a40 a41 a42 a43 xs44
def f72.l28.w {R : Type} : (Int × Int × Int × Int × Int × (List (List Int))) → (Exit → St env → Option R) → Option R := fun t51 K => K (.exit 10) ⟨fullT [4, 9, 79, 80, 84, 85] 0 126 [.v (.c (.row 129)), .v (.c (.s (.int .i64 t51.1))), .v (.c (.s (.int .i64 t51.2.1))), .v (.c (.s (.int .i64 t51.2.2.1))), .v (.c (.s (.int .i64 t51.2.2.2.1))), .v (.c (.s (.int .i64 t51.2.2.2.2.1)))], [(129, .row true 33 t51.2.2.2.2.2)], 2097⟩
def f72.l28.st (a36 : Int) (a37 : Int) (a38 : Int) (a39 : Int) (a40 : Int) (a41 : Int) (a42 : Int) (a43 : Int) (xs44 : List (List Int)) : St env := ⟨fullT [4, 9, 10, 79, 80, 84, 85, 89, 90] 0 126 [.v (.c (.row 129)), .v (.c (.s (.int .i64 a36))), .v (.c (.s (.int .i64 a37))), .v (.c (.s (.int .i64 a38))), .v (.c (.s (.int .i64 a39))), .v (.c (.s (.int .i64 a40))), .v (.c (.s (.int .i64 a41))), .v (.c (.s (.int .i64 a42))), .v (.c (.s (.int .i64 a43)))], [(129, .row true 33 xs44)], 1537⟩
def f72.l25.step {R : Type} (k : Nat) (rec_ : Int → Int → Int → Int → Int → (List (List Int)) → Option R) (ret : (Int × Int × (List (List Int))) → Option R) (a30 : Int) (a31 : Int) (a32 : Int) (a33 : Int) (a34 : Int) (xs35 : List (List Int)) : Option R :=
  if (decide (a34 < a33)) = true then
    (f72.l28 k k a30 a34 a31 a32 a33 a34 (((List.length xs35) : Nat) : Int) (0 : Int) xs35).bind fun t45 => rec_ t45.1 t45.2.1 t45.2.2.1 t45.2.2.2.1 (IntKind.i64.wrap (t45.2.2.2.2.1 + (1 : Int))) t45.2.2.2.2.2
  else
    ret (a31, a32, xs35)
def f72.l25 (k : Nat) : Nat → Int → Int → Int → Int → Int → (List (List Int)) → Option (Int × Int × (List (List Int)))
  | 0, _, _, _, _, _, _ => none
  | j + 1, a30, a31, a32, a33, a34, xs35 => f72.l25.step k (fun a30 a31 a32 a33 a34 xs35 => f72.l25 k j a30 a31 a32 a33 a34 xs35) some a30 a31 a32 a33 a34 xs35
def f72.l25.w {R : Type} : (Int × Int × (List (List Int))) → (Exit → St env → Option R) → Option R := fun t52 K => K (.exit 8) ⟨fullT [4, 79, 80] 0 126 [.v (.c (.row 129)), .v (.c (.s (.int .i64 t52.1))), .v (.c (.s (.int .i64 t52.2.1)))], [(129, .row true 33 t52.2.2)], 2129⟩
def f72.l25.st (a30 : Int) (a31 : Int) (a32 : Int) (a33 : Int) (a34 : Int) (xs35 : List (List Int)) : St env := ⟨fullT [4, 9, 79, 80, 84, 85] 0 126 [.v (.c (.row 129)), .v (.c (.s (.int .i64 a30))), .v (.c (.s (.int .i64 a31))), .v (.c (.s (.int .i64 a32))), .v (.c (.s (.int .i64 a33))), .v (.c (.s (.int .i64 a34)))], [(129, .row true 33 xs35)], 1441⟩
def f72.l22.step {R : Type} (k : Nat) (rec_ : Int → Int → (List (List Int)) → Option R) (ret : ((List (List Int))) → Option R) (a27 : Int) (a28 : Int) (xs29 : List (List Int)) : Option R :=
  if (decide (a28 < a27)) = true then
    (f72.l25 k k a28 a27 a28 (((List.length xs29) : Nat) : Int) (0 : Int) xs29).bind fun t46 => rec_ t46.1 (IntKind.i64.wrap (t46.2.1 + (1 : Int))) t46.2.2
  else
    ret xs29
def f72.l22 (k : Nat) : Nat → Int → Int → (List (List Int)) → Option ((List (List Int)))
  | 0, _, _, _ => none
  | j + 1, a27, a28, xs29 => f72.l22.step k (fun a27 a28 xs29 => f72.l22 k j a27 a28 xs29) some a27 a28 xs29
def f72.l22.w {R : Type} : ((List (List Int))) → (Exit → St env → Option R) → Option R := fun t53 K => K (.exit 6) ⟨fullT [4] 0 126 [.v (.c (.row 129))], [(129, .row true 33 t53)], 2161⟩
def f72.l22.st (a27 : Int) (a28 : Int) (xs29 : List (List Int)) : St env := ⟨fullT [4, 79, 80] 0 126 [.v (.c (.row 129)), .v (.c (.s (.int .i64 a27))), .v (.c (.s (.int .i64 a28)))], [(129, .row true 33 xs29)], 1345⟩
def f72.l9.hd (k : Nat) (ts_ : List (AV env)) (mm_ : Mem env) (n_ : Nat) : LCl env :=
  gTs LCl.no [1, 4, 5, 19, 20, 33, 34] 126 ts_ fun l_ => gV LCl.no l_ fun a_ l_ => rBp LCl.no 1 0 a_ <| gV LCl.no l_ fun a_ l_ => rRow LCl.no 129 a_ <| gV LCl.no l_ fun a_ l_ => rV LCl.no a_ fun v_ => vI LCl.no .i64 v_ fun a11 => gV LCl.no l_ fun a_ l_ => rV LCl.no a_ fun v_ => vI LCl.no .i64 v_ fun a12 => gV LCl.no l_ fun a_ l_ => rV LCl.no a_ fun v_ => vI LCl.no .i64 v_ fun a13 => gV LCl.no l_ fun a_ l_ => rV LCl.no a_ fun v_ => vI LCl.no .i64 v_ fun a14 => gV LCl.no l_ fun a_ l_ => rV LCl.no a_ fun v_ => vI LCl.no .i64 v_ fun a15 => gE LCl.no l_ <| mBox LCl.no 1 mm_ fun c_ m_ => gC LCl.no c_ fun a_ c_ => rImm LCl.no 146 a_ fun xs16 => gC LCl.no c_ fun a_ c_ => rImm LCl.no 140 a_ fun xs17 => gC LCl.no c_ fun a_ c_ => rV LCl.no a_ fun v_ => vI LCl.no .i64 v_ fun a18 => gE LCl.no c_ <| mRow LCl.no 129 true 33 m_ fun xs19 m_ => gE LCl.no m_ <| gN LCl.no 465 n_ { α := Int × Int × (List S146) × (List (List S142)) × Int × (List (List Int)), o := f72.l9 k k a11 a12 a13 a14 a15 xs16 xs17 a18 xs19, w := f72.l9.w }
def f72.l5.hd (k : Nat) (ts_ : List (AV env)) (mm_ : Mem env) (n_ : Nat) : LCl env :=
  gTs LCl.no [1, 4, 19, 20] 126 ts_ fun l_ => gV LCl.no l_ fun a_ l_ => rBp LCl.no 1 0 a_ <| gV LCl.no l_ fun a_ l_ => rRow LCl.no 129 a_ <| gV LCl.no l_ fun a_ l_ => rV LCl.no a_ fun v_ => vI LCl.no .i64 v_ fun a5 => gV LCl.no l_ fun a_ l_ => rV LCl.no a_ fun v_ => vI LCl.no .i64 v_ fun a6 => gE LCl.no l_ <| mBox LCl.no 1 mm_ fun c_ m_ => gC LCl.no c_ fun a_ c_ => rImm LCl.no 146 a_ fun xs7 => gC LCl.no c_ fun a_ c_ => rImm LCl.no 140 a_ fun xs8 => gC LCl.no c_ fun a_ c_ => rV LCl.no a_ fun v_ => vI LCl.no .i64 v_ fun a9 => gE LCl.no c_ <| mRow LCl.no 129 true 33 m_ fun xs10 m_ => gE LCl.no m_ <| gN LCl.no 209 n_ { α := (List S146) × (List (List S142)) × Int × (List (List Int)), o := f72.l5 k k a5 a6 xs7 xs8 a9 xs10, w := f72.l5.w }
def f72.l16.hd (k : Nat) (ts_ : List (AV env)) (mm_ : Mem env) (n_ : Nat) : LCl env :=
  gTs LCl.no [4, 49, 50, 51] 126 ts_ fun l_ => gV LCl.no l_ fun a_ l_ => rRow LCl.no 129 a_ <| gV LCl.no l_ fun a_ l_ => rImm LCl.no 146 a_ fun xs22 => gV LCl.no l_ fun a_ l_ => rV LCl.no a_ fun v_ => vI LCl.no .i64 v_ fun a23 => gV LCl.no l_ fun a_ l_ => rV LCl.no a_ fun v_ => vI LCl.no .i64 v_ fun a24 => gE LCl.no l_ <| mRow LCl.no 129 true 33 mm_ fun xs25 m_ => gE LCl.no m_ <| gN LCl.no 801 n_ { α := (List (List Int)), o := f72.l16 k k xs22 a23 a24 xs25, w := f72.l16.w }
def f72.l28.hd (k : Nat) (ts_ : List (AV env)) (mm_ : Mem env) (n_ : Nat) : LCl env :=
  gTs LCl.no [4, 9, 10, 79, 80, 84, 85, 89, 90] 126 ts_ fun l_ => gV LCl.no l_ fun a_ l_ => rRow LCl.no 129 a_ <| gV LCl.no l_ fun a_ l_ => rV LCl.no a_ fun v_ => vI LCl.no .i64 v_ fun a36 => gV LCl.no l_ fun a_ l_ => rV LCl.no a_ fun v_ => vI LCl.no .i64 v_ fun a37 => gV LCl.no l_ fun a_ l_ => rV LCl.no a_ fun v_ => vI LCl.no .i64 v_ fun a38 => gV LCl.no l_ fun a_ l_ => rV LCl.no a_ fun v_ => vI LCl.no .i64 v_ fun a39 => gV LCl.no l_ fun a_ l_ => rV LCl.no a_ fun v_ => vI LCl.no .i64 v_ fun a40 => gV LCl.no l_ fun a_ l_ => rV LCl.no a_ fun v_ => vI LCl.no .i64 v_ fun a41 => gV LCl.no l_ fun a_ l_ => rV LCl.no a_ fun v_ => vI LCl.no .i64 v_ fun a42 => gV LCl.no l_ fun a_ l_ => rV LCl.no a_ fun v_ => vI LCl.no .i64 v_ fun a43 => gE LCl.no l_ <| mRow LCl.no 129 true 33 mm_ fun xs44 m_ => gE LCl.no m_ <| gN LCl.no 1537 n_ { α := Int × Int × Int × Int × Int × (List (List Int)), o := f72.l28 k k a36 a37 a38 a39 a40 a41 a42 a43 xs44, w := f72.l28.w }
def f72.l25.hd (k : Nat) (ts_ : List (AV env)) (mm_ : Mem env) (n_ : Nat) : LCl env :=
  gTs LCl.no [4, 9, 79, 80, 84, 85] 126 ts_ fun l_ => gV LCl.no l_ fun a_ l_ => rRow LCl.no 129 a_ <| gV LCl.no l_ fun a_ l_ => rV LCl.no a_ fun v_ => vI LCl.no .i64 v_ fun a30 => gV LCl.no l_ fun a_ l_ => rV LCl.no a_ fun v_ => vI LCl.no .i64 v_ fun a31 => gV LCl.no l_ fun a_ l_ => rV LCl.no a_ fun v_ => vI LCl.no .i64 v_ fun a32 => gV LCl.no l_ fun a_ l_ => rV LCl.no a_ fun v_ => vI LCl.no .i64 v_ fun a33 => gV LCl.no l_ fun a_ l_ => rV LCl.no a_ fun v_ => vI LCl.no .i64 v_ fun a34 => gE LCl.no l_ <| mRow LCl.no 129 true 33 mm_ fun xs35 m_ => gE LCl.no m_ <| gN LCl.no 1441 n_ { α := Int × Int × (List (List Int)), o := f72.l25 k k a30 a31 a32 a33 a34 xs35, w := f72.l25.w }
def f72.l22.hd (k : Nat) (ts_ : List (AV env)) (mm_ : Mem env) (n_ : Nat) : LCl env :=
  gTs LCl.no [4, 79, 80] 126 ts_ fun l_ => gV LCl.no l_ fun a_ l_ => rRow LCl.no 129 a_ <| gV LCl.no l_ fun a_ l_ => rV LCl.no a_ fun v_ => vI LCl.no .i64 v_ fun a27 => gV LCl.no l_ fun a_ l_ => rV LCl.no a_ fun v_ => vI LCl.no .i64 v_ fun a28 => gE LCl.no l_ <| mRow LCl.no 129 true 33 mm_ fun xs29 m_ => gE LCl.no m_ <| gN LCl.no 1345 n_ { α := (List (List Int)), o := f72.l22 k k a27 a28 xs29, w := f72.l22.w }
def f72.step {R : Type} (k : Nat) (ret : (Int ⊕ ((List (List Int)) × Int)) → Option R) (xs1 : List S146) (xs2 : List (List S142)) (a3 : Int) : Option R :=
  (f44 k xs1 xs2 a3).bind fun t4 => if (!t4) = true then
      ret (.inl (1 : Int))
    else
      if (0 : Int) ≤ a3 then
        if (Int.toNat a3) * 24 ≤ maxN then
          (f72.l5 k k (((List.length (List.replicate (Int.toNat a3) ([] : List Int))) : Nat) : Int) (0 : Int) xs1 xs2 a3 (List.replicate (Int.toNat a3) ([] : List Int))).bind fun t21 => (f72.l16 k k t21.1 (((List.length t21.1) : Nat) : Int) (0 : Int) t21.2.2.2).bind fun t26 => (f72.l22 k k (((List.length t26) : Nat) : Int) (0 : Int) t26).bind fun t47 => ret (.inr (t47, (0 : Int)))
        else none
      else none
def f72 (k : Nat) (xs1 : List S146) (xs2 : List (List S142)) (a3 : Int) : Option (Int ⊕ ((List (List Int)) × Int)) := f72.step k some xs1 xs2 a3
def f72.w {R : Type} : (Int ⊕ ((List (List Int)) × Int)) → (Res env → Option R) → Option R := fun x K => Sum.elim (fun t54 => K ⟨.tup [.c (.s (.slice none 0 0)), .c (.s (.int .i64 t54))], [[]]⟩) (fun t55 => K ⟨.tup [.c (.own true 33 t55.1), .c (.s (.int .i64 t55.2))], [[]]⟩) x
theorem f72.wn (x : (Int ⊕ ((List (List Int)) × Int))) : ∃ res, ∀ {R : Type} (K : Res env → Option R), f72.w x K = K res := by
  rcases x with x | x <;> exact ⟨_, fun _ => rfl⟩
def f72.hd (k : Nat) (ps_ : List (P2 env)) : Cl env :=
  gC Cl.no ps_ fun p_ ps_ => qG Cl.no p_ fun cs_ => gC Cl.no cs_ fun c_ cs_ => qSl Cl.no 146 c_ fun xs1 => gC Cl.no cs_ fun c_ cs_ => qSl Cl.no 140 c_ fun xs2 => gC Cl.no cs_ fun c_ cs_ => qS Cl.no c_ fun v_ => vI Cl.no .i64 v_ fun a3 => gE Cl.no cs_ <| gE Cl.no ps_ <| { α := Int ⊕ ((List (List Int)) × Int), o := f72 k xs1 xs2 a3, w := f72.w, nat := fun x _ => f72.wn x }
def f72.e (k : Nat) : Entry env := ⟨fun ps => f72.hd k (coer [[.rd 146, .rd 140, .no]] ps), [], []⟩
def f72.X (k : Nat) : Ctx env := { C := lookE [(44, f44.e k)], L := lookE [(9, fun S => f72.l9.hd k S.ts S.m S.n), (5, fun S => f72.l5.hd k S.ts S.m S.n), (16, fun S => f72.l16.hd k S.ts S.m S.n), (28, fun S => f72.l28.hd k S.ts S.m S.n), (25, fun S => f72.l25.hd k S.ts S.m S.n), (22, fun S => f72.l22.hd k S.ts S.m S.n)], J := lookE [], keep := lookD [(9, [1, 4, 5, 19, 20, 33, 34]), (5, [1, 4, 19, 20]), (16, [4, 49, 50, 51]), (28, [4, 9, 10, 79, 80, 84, 85, 89, 90]), (25, [4, 9, 79, 80, 84, 85]), (22, [4, 79, 80])], keepX := lookD [(9, [1, 4, 19, 20]), (5, [1, 4]), (16, [4]), (28, [4, 9, 79, 80, 84, 85]), (25, [4, 79, 80]), (22, [4])], span := lookN [(9, 240), (5, 528), (16, 496), (28, 560), (25, 688), (22, 816)], eff := fun n => memN n [19, 30], prep := lookP [], np := 0, vb := lookN [(8, 2), (12, 2), (19, 2), (30, 2)], ve := lookN [(8, 1), (12, 1), (19, 1), (30, 1)] }
theorem f72.l9.nat {R : Type} (k : Nat) (rec_ : Int → Int → Int → Int → Int → (List S146) → (List (List S142)) → Int → (List (List Int)) → Option (Int × Int × (List S146) × (List (List S142)) × Int × (List (List Int)))) (g : (Int × Int × (List S146) × (List (List S142)) × Int × (List (List Int))) → Option R) (a11 : Int) (a12 : Int) (a13 : Int) (a14 : Int) (a15 : Int) (xs16 : List S146) (xs17 : List (List S142)) (a18 : Int) (xs19 : List (List Int)) : (f72.l9.step k rec_ some a11 a12 a13 a14 a15 xs16 xs17 a18 xs19).bind g = f72.l9.step k (fun a11 a12 a13 a14 a15 xs16 xs17 a18 xs19 => (rec_ a11 a12 a13 a14 a15 xs16 xs17 a18 xs19).bind g) g a11 a12 a13 a14 a15 xs16 xs17 a18 xs19 := by
  simp only [f72.l9.step, bind_ite, bind_sum, Option.bind_assoc, Option.bind_some, Option.bind_none]
theorem f72.l9.good (k : Nat) (a11 : Int) (a12 : Int) (a13 : Int) (a14 : Int) (a15 : Int) (xs16 : List S146) (xs17 : List (List S142)) (a18 : Int) (xs19 : List (List Int)) : GoodL (f72.X k) (nthC 1 (loopsOf (bodyOf Try.f72))) (f72.l9.st a11 a12 a13 a14 a15 xs16 xs17 a18 xs19) { α := (Int × Int × (List S146) × (List (List S142)) × Int × (List (List Int))), o := f72.l9 k k a11 a12 a13 a14 a15 xs16 xs17 a18 xs19, w := f72.l9.w } :=
  loop_good (ι := Int × Int × Int × Int × Int × (List S146) × (List (List S142)) × Int × (List (List Int))) (α := (Int × Int × (List S146) × (List (List S142)) × Int × (List (List Int)))) (fun i => f72.l9.st i.1 i.2.1 i.2.2.1 i.2.2.2.1 i.2.2.2.2.1 i.2.2.2.2.2.1 i.2.2.2.2.2.2.1 i.2.2.2.2.2.2.2.1 i.2.2.2.2.2.2.2.2) (fun j i => f72.l9 k j i.1 i.2.1 i.2.2.1 i.2.2.2.1 i.2.2.2.2.1 i.2.2.2.2.2.1 i.2.2.2.2.2.2.1 i.2.2.2.2.2.2.2.1 i.2.2.2.2.2.2.2.2) f72.l9.w (fun rec_ ret i => f72.l9.step k (fun a11 a12 a13 a14 a15 xs16 xs17 a18 xs19 => rec_ (a11, a12, a13, a14, a15, xs16, xs17, a18, xs19)) ret i.1 i.2.1 i.2.2.1 i.2.2.2.1 i.2.2.2.2.1 i.2.2.2.2.2.1 i.2.2.2.2.2.2.1 i.2.2.2.2.2.2.2.1 i.2.2.2.2.2.2.2.2)
    (fun _ => rfl) (fun _ _ => rfl) (fun rec_ g i => f72.l9.nat k _ g i.1 i.2.1 i.2.2.1 i.2.2.2.1 i.2.2.2.2.1 i.2.2.2.2.2.1 i.2.2.2.2.2.2.1 i.2.2.2.2.2.2.2.1 i.2.2.2.2.2.2.2.2) (fun {R} i0 i rec_ K => by kernel_rfl) k (a11, a12, a13, a14, a15, xs16, xs17, a18, xs19)
theorem f72.l9.all (k : Nat) (S : St env) : GoodL (f72.X k) (nthC 1 (loopsOf (bodyOf Try.f72))) S (f72.l9.hd k S.ts S.m S.n) := by
  obtain ⟨ts_, m_, n_⟩ := S
  show GoodL _ _ _ (f72.l9.hd k ts_ m_ n_)
  unfold f72.l9.hd
  refine gTs_ok (p := GoodL _ _ _) goodL_no fun _ h => ?_
  subst h
  refine gV_ok (p := GoodL _ _ _) goodL_no fun _ _ h => ?_
  subst h
  refine rBp_ok (p := GoodL _ _ _) goodL_no fun h => ?_
  subst h
  refine gV_ok (p := GoodL _ _ _) goodL_no fun _ _ h => ?_
  subst h
  refine rRow_ok (p := GoodL _ _ _) goodL_no fun h => ?_
  subst h
  refine gV_ok (p := GoodL _ _ _) goodL_no fun _ _ h => ?_
  subst h
  refine rV_ok (p := GoodL _ _ _) goodL_no fun _ h => ?_
  subst h
  refine vI_ok (p := GoodL _ _ _) goodL_no fun _ h => ?_
  subst h
  refine gV_ok (p := GoodL _ _ _) goodL_no fun _ _ h => ?_
  subst h
  refine rV_ok (p := GoodL _ _ _) goodL_no fun _ h => ?_
  subst h
  refine vI_ok (p := GoodL _ _ _) goodL_no fun _ h => ?_
  subst h
  refine gV_ok (p := GoodL _ _ _) goodL_no fun _ _ h => ?_
  subst h
  refine rV_ok (p := GoodL _ _ _) goodL_no fun _ h => ?_
  subst h
  refine vI_ok (p := GoodL _ _ _) goodL_no fun _ h => ?_
  subst h
  refine gV_ok (p := GoodL _ _ _) goodL_no fun _ _ h => ?_
  subst h
  refine rV_ok (p := GoodL _ _ _) goodL_no fun _ h => ?_
  subst h
  refine vI_ok (p := GoodL _ _ _) goodL_no fun _ h => ?_
  subst h
  refine gV_ok (p := GoodL _ _ _) goodL_no fun _ _ h => ?_
  subst h
  refine rV_ok (p := GoodL _ _ _) goodL_no fun _ h => ?_
  subst h
  refine vI_ok (p := GoodL _ _ _) goodL_no fun _ h => ?_
  subst h
  refine gE_ok (p := GoodL _ _ _) goodL_no fun h => ?_
  subst h
  refine mBox_ok (p := GoodL _ _ _) goodL_no fun _ _ h => ?_
  subst h
  refine gC_ok (p := GoodL _ _ _) goodL_no fun _ _ h => ?_
  subst h
  refine rImm_ok (p := GoodL _ _ _) goodL_no fun _ h => ?_
  subst h
  refine gC_ok (p := GoodL _ _ _) goodL_no fun _ _ h => ?_
  subst h
  refine rImm_ok (p := GoodL _ _ _) goodL_no fun _ h => ?_
  subst h
  refine gC_ok (p := GoodL _ _ _) goodL_no fun _ _ h => ?_
  subst h
  refine rV_ok (p := GoodL _ _ _) goodL_no fun _ h => ?_
  subst h
  refine vI_ok (p := GoodL _ _ _) goodL_no fun _ h => ?_
  subst h
  refine gE_ok (p := GoodL _ _ _) goodL_no fun h => ?_
  subst h
  refine mRow_ok (p := GoodL _ _ _) goodL_no fun _ _ h => ?_
  subst h
  refine gE_ok (p := GoodL _ _ _) goodL_no fun h => ?_
  subst h
  refine gN_ok (p := GoodL _ _ _) goodL_no fun h => ?_
  subst h
  exact f72.l9.good k _ _ _ _ _ _ _ _ _
theorem f72.l5.nat {R : Type} (k : Nat) (rec_ : Int → Int → (List S146) → (List (List S142)) → Int → (List (List Int)) → Option ((List S146) × (List (List S142)) × Int × (List (List Int)))) (g : ((List S146) × (List (List S142)) × Int × (List (List Int))) → Option R) (a5 : Int) (a6 : Int) (xs7 : List S146) (xs8 : List (List S142)) (a9 : Int) (xs10 : List (List Int)) : (f72.l5.step k rec_ some a5 a6 xs7 xs8 a9 xs10).bind g = f72.l5.step k (fun a5 a6 xs7 xs8 a9 xs10 => (rec_ a5 a6 xs7 xs8 a9 xs10).bind g) g a5 a6 xs7 xs8 a9 xs10 := by
  simp only [f72.l5.step, bind_ite, bind_sum, Option.bind_assoc, Option.bind_some, Option.bind_none]
theorem f72.l5.good (k : Nat) (a5 : Int) (a6 : Int) (xs7 : List S146) (xs8 : List (List S142)) (a9 : Int) (xs10 : List (List Int)) : GoodL (f72.X k) (nthC 0 (loopsOf (bodyOf Try.f72))) (f72.l5.st a5 a6 xs7 xs8 a9 xs10) { α := ((List S146) × (List (List S142)) × Int × (List (List Int))), o := f72.l5 k k a5 a6 xs7 xs8 a9 xs10, w := f72.l5.w } :=
  loop_good (ι := Int × Int × (List S146) × (List (List S142)) × Int × (List (List Int))) (α := ((List S146) × (List (List S142)) × Int × (List (List Int)))) (fun i => f72.l5.st i.1 i.2.1 i.2.2.1 i.2.2.2.1 i.2.2.2.2.1 i.2.2.2.2.2) (fun j i => f72.l5 k j i.1 i.2.1 i.2.2.1 i.2.2.2.1 i.2.2.2.2.1 i.2.2.2.2.2) f72.l5.w (fun rec_ ret i => f72.l5.step k (fun a5 a6 xs7 xs8 a9 xs10 => rec_ (a5, a6, xs7, xs8, a9, xs10)) ret i.1 i.2.1 i.2.2.1 i.2.2.2.1 i.2.2.2.2.1 i.2.2.2.2.2)
    (fun _ => rfl) (fun _ _ => rfl) (fun rec_ g i => f72.l5.nat k _ g i.1 i.2.1 i.2.2.1 i.2.2.2.1 i.2.2.2.2.1 i.2.2.2.2.2) (fun {R} i0 i rec_ K => by kernel_rfl) k (a5, a6, xs7, xs8, a9, xs10)
theorem f72.l5.all (k : Nat) (S : St env) : GoodL (f72.X k) (nthC 0 (loopsOf (bodyOf Try.f72))) S (f72.l5.hd k S.ts S.m S.n) := by
  obtain ⟨ts_, m_, n_⟩ := S
  show GoodL _ _ _ (f72.l5.hd k ts_ m_ n_)
  unfold f72.l5.hd
  refine gTs_ok (p := GoodL _ _ _) goodL_no fun _ h => ?_
  subst h
  refine gV_ok (p := GoodL _ _ _) goodL_no fun _ _ h => ?_
  subst h
  refine rBp_ok (p := GoodL _ _ _) goodL_no fun h => ?_
  subst h
  refine gV_ok (p := GoodL _ _ _) goodL_no fun _ _ h => ?_
  subst h
  refine rRow_ok (p := GoodL _ _ _) goodL_no fun h => ?_
  subst h
  refine gV_ok (p := GoodL _ _ _) goodL_no fun _ _ h => ?_
  subst h
  refine rV_ok (p := GoodL _ _ _) goodL_no fun _ h => ?_
  subst h
  refine vI_ok (p := GoodL _ _ _) goodL_no fun _ h => ?_
  subst h
  refine gV_ok (p := GoodL _ _ _) goodL_no fun _ _ h => ?_
  subst h
  refine rV_ok (p := GoodL _ _ _) goodL_no fun _ h => ?_
  subst h
  refine vI_ok (p := GoodL _ _ _) goodL_no fun _ h => ?_
  subst h
  refine gE_ok (p := GoodL _ _ _) goodL_no fun h => ?_
  subst h
  refine mBox_ok (p := GoodL _ _ _) goodL_no fun _ _ h => ?_
  subst h
  refine gC_ok (p := GoodL _ _ _) goodL_no fun _ _ h => ?_
  subst h
  refine rImm_ok (p := GoodL _ _ _) goodL_no fun _ h => ?_
  subst h
  refine gC_ok (p := GoodL _ _ _) goodL_no fun _ _ h => ?_
  subst h
  refine rImm_ok (p := GoodL _ _ _) goodL_no fun _ h => ?_
  subst h
  refine gC_ok (p := GoodL _ _ _) goodL_no fun _ _ h => ?_
  subst h
  refine rV_ok (p := GoodL _ _ _) goodL_no fun _ h => ?_
  subst h
  refine vI_ok (p := GoodL _ _ _) goodL_no fun _ h => ?_
  subst h
  refine gE_ok (p := GoodL _ _ _) goodL_no fun h => ?_
  subst h
  refine mRow_ok (p := GoodL _ _ _) goodL_no fun _ _ h => ?_
  subst h
  refine gE_ok (p := GoodL _ _ _) goodL_no fun h => ?_
  subst h
  refine gN_ok (p := GoodL _ _ _) goodL_no fun h => ?_
  subst h
  exact f72.l5.good k _ _ _ _ _ _
theorem f72.l16.nat {R : Type} (k : Nat) (rec_ : (List S146) → Int → Int → (List (List Int)) → Option ((List (List Int)))) (g : ((List (List Int))) → Option R) (xs22 : List S146) (a23 : Int) (a24 : Int) (xs25 : List (List Int)) : (f72.l16.step k rec_ some xs22 a23 a24 xs25).bind g = f72.l16.step k (fun xs22 a23 a24 xs25 => (rec_ xs22 a23 a24 xs25).bind g) g xs22 a23 a24 xs25 := by
  simp only [f72.l16.step, bind_ite, bind_sum, Option.bind_assoc, Option.bind_some, Option.bind_none]
theorem f72.l16.good (k : Nat) (xs22 : List S146) (a23 : Int) (a24 : Int) (xs25 : List (List Int)) : GoodL (f72.X k) (nthC 2 (loopsOf (bodyOf Try.f72))) (f72.l16.st xs22 a23 a24 xs25) { α := ((List (List Int))), o := f72.l16 k k xs22 a23 a24 xs25, w := f72.l16.w } :=
  loop_good (ι := (List S146) × Int × Int × (List (List Int))) (α := ((List (List Int)))) (fun i => f72.l16.st i.1 i.2.1 i.2.2.1 i.2.2.2) (fun j i => f72.l16 k j i.1 i.2.1 i.2.2.1 i.2.2.2) f72.l16.w (fun rec_ ret i => f72.l16.step k (fun xs22 a23 a24 xs25 => rec_ (xs22, a23, a24, xs25)) ret i.1 i.2.1 i.2.2.1 i.2.2.2)
    (fun _ => rfl) (fun _ _ => rfl) (fun rec_ g i => f72.l16.nat k _ g i.1 i.2.1 i.2.2.1 i.2.2.2) (fun {R} i0 i rec_ K => by kernel_rfl) k (xs22, a23, a24, xs25)
theorem f72.l16.all (k : Nat) (S : St env) : GoodL (f72.X k) (nthC 2 (loopsOf (bodyOf Try.f72))) S (f72.l16.hd k S.ts S.m S.n) := by
  obtain ⟨ts_, m_, n_⟩ := S
  show GoodL _ _ _ (f72.l16.hd k ts_ m_ n_)
  unfold f72.l16.hd
  refine gTs_ok (p := GoodL _ _ _) goodL_no fun _ h => ?_
  subst h
  refine gV_ok (p := GoodL _ _ _) goodL_no fun _ _ h => ?_
  subst h
  refine rRow_ok (p := GoodL _ _ _) goodL_no fun h => ?_
  subst h
  refine gV_ok (p := GoodL _ _ _) goodL_no fun _ _ h => ?_
  subst h
  refine rImm_ok (p := GoodL _ _ _) goodL_no fun _ h => ?_
  subst h
  refine gV_ok (p := GoodL _ _ _) goodL_no fun _ _ h => ?_
  subst h
  refine rV_ok (p := GoodL _ _ _) goodL_no fun _ h => ?_
  subst h
  refine vI_ok (p := GoodL _ _ _) goodL_no fun _ h => ?_
  subst h
  refine gV_ok (p := GoodL _ _ _) goodL_no fun _ _ h => ?_
  subst h
  refine rV_ok (p := GoodL _ _ _) goodL_no fun _ h => ?_
  subst h
  refine vI_ok (p := GoodL _ _ _) goodL_no fun _ h => ?_
  subst h
  refine gE_ok (p := GoodL _ _ _) goodL_no fun h => ?_
  subst h
  refine mRow_ok (p := GoodL _ _ _) goodL_no fun _ _ h => ?_
  subst h
  refine gE_ok (p := GoodL _ _ _) goodL_no fun h => ?_
  subst h
  refine gN_ok (p := GoodL _ _ _) goodL_no fun h => ?_
  subst h
  exact f72.l16.good k _ _ _ _
theorem f72.l28.nat {R : Type} (k : Nat) (rec_ : Int → Int → Int → Int → Int → Int → Int → Int → (List (List Int)) → Option (Int × Int × Int × Int × Int × (List (List Int)))) (g : (Int × Int × Int × Int × Int × (List (List Int))) → Option R) (a36 : Int) (a37 : Int) (a38 : Int) (a39 : Int) (a40 : Int) (a41 : Int) (a42 : Int) (a43 : Int) (xs44 : List (List Int)) : (f72.l28.step k rec_ some a36 a37 a38 a39 a40 a41 a42 a43 xs44).bind g = f72.l28.step k (fun a36 a37 a38 a39 a40 a41 a42 a43 xs44 => (rec_ a36 a37 a38 a39 a40 a41 a42 a43 xs44).bind g) g a36 a37 a38 a39 a40 a41 a42 a43 xs44 := by
  simp only [f72.l28.step, bind_ite, bind_sum, Option.bind_assoc, Option.bind_some, Option.bind_none]
theorem f72.l28.good (k : Nat) (a36 : Int) (a37 : Int) (a38 : Int) (a39 : Int) (a40 : Int) (a41 : Int) (a42 : Int) (a43 : Int) (xs44 : List (List Int)) : GoodL (f72.X k) (nthC 5 (loopsOf (bodyOf Try.f72))) (f72.l28.st a36 a37 a38 a39 a40 a41 a42 a43 xs44) { α := (Int × Int × Int × Int × Int × (List (List Int))), o := f72.l28 k k a36 a37 a38 a39 a40 a41 a42 a43 xs44, w := f72.l28.w } :=
  loop_good (ι := Int × Int × Int × Int × Int × Int × Int × Int × (List (List Int))) (α := (Int × Int × Int × Int × Int × (List (List Int)))) (fun i => f72.l28.st i.1 i.2.1 i.2.2.1 i.2.2.2.1 i.2.2.2.2.1 i.2.2.2.2.2.1 i.2.2.2.2.2.2.1 i.2.2.2.2.2.2.2.1 i.2.2.2.2.2.2.2.2) (fun j i => f72.l28 k j i.1 i.2.1 i.2.2.1 i.2.2.2.1 i.2.2.2.2.1 i.2.2.2.2.2.1 i.2.2.2.2.2.2.1 i.2.2.2.2.2.2.2.1 i.2.2.2.2.2.2.2.2) f72.l28.w (fun rec_ ret i => f72.l28.step k (fun a36 a37 a38 a39 a40 a41 a42 a43 xs44 => rec_ (a36, a37, a38, a39, a40, a41, a42, a43, xs44)) ret i.1 i.2.1 i.2.2.1 i.2.2.2.1 i.2.2.2.2.1 i.2.2.2.2.2.1 i.2.2.2.2.2.2.1 i.2.2.2.2.2.2.2.1 i.2.2.2.2.2.2.2.2)
    (fun _ => rfl) (fun _ _ => rfl) (fun rec_ g i => f72.l28.nat k _ g i.1 i.2.1 i.2.2.1 i.2.2.2.1 i.2.2.2.2.1 i.2.2.2.2.2.1 i.2.2.2.2.2.2.1 i.2.2.2.2.2.2.2.1 i.2.2.2.2.2.2.2.2) (fun {R} i0 i rec_ K => by kernel_rfl) k (a36, a37, a38, a39, a40, a41, a42, a43, xs44)
theorem f72.l28.all (k : Nat) (S : St env) : GoodL (f72.X k) (nthC 5 (loopsOf (bodyOf Try.f72))) S (f72.l28.hd k S.ts S.m S.n) := by
  obtain ⟨ts_, m_, n_⟩ := S
  show GoodL _ _ _ (f72.l28.hd k ts_ m_ n_)
  unfold f72.l28.hd
  refine gTs_ok (p := GoodL _ _ _) goodL_no fun _ h => ?_
  subst h
  refine gV_ok (p := GoodL _ _ _) goodL_no fun _ _ h => ?_
  subst h
  refine rRow_ok (p := GoodL _ _ _) goodL_no fun h => ?_
  subst h
  refine gV_ok (p := GoodL _ _ _) goodL_no fun _ _ h => ?_
  subst h
  refine rV_ok (p := GoodL _ _ _) goodL_no fun _ h => ?_
  subst h
  refine vI_ok (p := GoodL _ _ _) goodL_no fun _ h => ?_
  subst h
  refine gV_ok (p := GoodL _ _ _) goodL_no fun _ _ h => ?_
  subst h
  refine rV_ok (p := GoodL _ _ _) goodL_no fun _ h => ?_
  subst h
  refine vI_ok (p := GoodL _ _ _) goodL_no fun _ h => ?_
  subst h
  refine gV_ok (p := GoodL _ _ _) goodL_no fun _ _ h => ?_
  subst h
  refine rV_ok (p := GoodL _ _ _) goodL_no fun _ h => ?_
  subst h
  refine vI_ok (p := GoodL _ _ _) goodL_no fun _ h => ?_
  subst h
  refine gV_ok (p := GoodL _ _ _) goodL_no fun _ _ h => ?_
  subst h
  refine rV_ok (p := GoodL _ _ _) goodL_no fun _ h => ?_
  subst h
  refine vI_ok (p := GoodL _ _ _) goodL_no fun _ h => ?_
  subst h
  refine gV_ok (p := GoodL _ _ _) goodL_no fun _ _ h => ?_
  subst h
  refine rV_ok (p := GoodL _ _ _) goodL_no fun _ h => ?_
  subst h
  refine vI_ok (p := GoodL _ _ _) goodL_no fun _ h => ?_
  subst h
  refine gV_ok (p := GoodL _ _ _) goodL_no fun _ _ h => ?_
  subst h
  refine rV_ok (p := GoodL _ _ _) goodL_no fun _ h => ?_
  subst h
  refine vI_ok (p := GoodL _ _ _) goodL_no fun _ h => ?_
  subst h
  refine gV_ok (p := GoodL _ _ _) goodL_no fun _ _ h => ?_
  subst h
  refine rV_ok (p := GoodL _ _ _) goodL_no fun _ h => ?_
  subst h
  refine vI_ok (p := GoodL _ _ _) goodL_no fun _ h => ?_
  subst h
  refine gV_ok (p := GoodL _ _ _) goodL_no fun _ _ h => ?_
  subst h
  refine rV_ok (p := GoodL _ _ _) goodL_no fun _ h => ?_
  subst h
  refine vI_ok (p := GoodL _ _ _) goodL_no fun _ h => ?_
  subst h
  refine gE_ok (p := GoodL _ _ _) goodL_no fun h => ?_
  subst h
  refine mRow_ok (p := GoodL _ _ _) goodL_no fun _ _ h => ?_
  subst h
  refine gE_ok (p := GoodL _ _ _) goodL_no fun h => ?_
  subst h
  refine gN_ok (p := GoodL _ _ _) goodL_no fun h => ?_
  subst h
  exact f72.l28.good k _ _ _ _ _ _ _ _ _
theorem f72.l25.nat {R : Type} (k : Nat) (rec_ : Int → Int → Int → Int → Int → (List (List Int)) → Option (Int × Int × (List (List Int)))) (g : (Int × Int × (List (List Int))) → Option R) (a30 : Int) (a31 : Int) (a32 : Int) (a33 : Int) (a34 : Int) (xs35 : List (List Int)) : (f72.l25.step k rec_ some a30 a31 a32 a33 a34 xs35).bind g = f72.l25.step k (fun a30 a31 a32 a33 a34 xs35 => (rec_ a30 a31 a32 a33 a34 xs35).bind g) g a30 a31 a32 a33 a34 xs35 := by
  simp only [f72.l25.step, bind_ite, bind_sum, Option.bind_assoc, Option.bind_some, Option.bind_none]
theorem f72.l25.good (k : Nat) (a30 : Int) (a31 : Int) (a32 : Int) (a33 : Int) (a34 : Int) (xs35 : List (List Int)) : GoodL (f72.X k) (nthC 4 (loopsOf (bodyOf Try.f72))) (f72.l25.st a30 a31 a32 a33 a34 xs35) { α := (Int × Int × (List (List Int))), o := f72.l25 k k a30 a31 a32 a33 a34 xs35, w := f72.l25.w } :=
  loop_good (ι := Int × Int × Int × Int × Int × (List (List Int))) (α := (Int × Int × (List (List Int)))) (fun i => f72.l25.st i.1 i.2.1 i.2.2.1 i.2.2.2.1 i.2.2.2.2.1 i.2.2.2.2.2) (fun j i => f72.l25 k j i.1 i.2.1 i.2.2.1 i.2.2.2.1 i.2.2.2.2.1 i.2.2.2.2.2) f72.l25.w (fun rec_ ret i => f72.l25.step k (fun a30 a31 a32 a33 a34 xs35 => rec_ (a30, a31, a32, a33, a34, xs35)) ret i.1 i.2.1 i.2.2.1 i.2.2.2.1 i.2.2.2.2.1 i.2.2.2.2.2)
    (fun _ => rfl) (fun _ _ => rfl) (fun rec_ g i => f72.l25.nat k _ g i.1 i.2.1 i.2.2.1 i.2.2.2.1 i.2.2.2.2.1 i.2.2.2.2.2) (fun {R} i0 i rec_ K => by kernel_rfl) k (a30, a31, a32, a33, a34, xs35)
theorem f72.l25.all (k : Nat) (S : St env) : GoodL (f72.X k) (nthC 4 (loopsOf (bodyOf Try.f72))) S (f72.l25.hd k S.ts S.m S.n) := by
  obtain ⟨ts_, m_, n_⟩ := S
  show GoodL _ _ _ (f72.l25.hd k ts_ m_ n_)
  unfold f72.l25.hd
  refine gTs_ok (p := GoodL _ _ _) goodL_no fun _ h => ?_
  subst h
  refine gV_ok (p := GoodL _ _ _) goodL_no fun _ _ h => ?_
  subst h
  refine rRow_ok (p := GoodL _ _ _) goodL_no fun h => ?_
  subst h
  refine gV_ok (p := GoodL _ _ _) goodL_no fun _ _ h => ?_
  subst h
  refine rV_ok (p := GoodL _ _ _) goodL_no fun _ h => ?_
  subst h
  refine vI_ok (p := GoodL _ _ _) goodL_no fun _ h => ?_
  subst h
  refine gV_ok (p := GoodL _ _ _) goodL_no fun _ _ h => ?_
  subst h
  refine rV_ok (p := GoodL _ _ _) goodL_no fun _ h => ?_
  subst h
  refine vI_ok (p := GoodL _ _ _) goodL_no fun _ h => ?_
  subst h
  refine gV_ok (p := GoodL _ _ _) goodL_no fun _ _ h => ?_
  subst h
  refine rV_ok (p := GoodL _ _ _) goodL_no fun _ h => ?_
  subst h
  refine vI_ok (p := GoodL _ _ _) goodL_no fun _ h => ?_
  subst h
  refine gV_ok (p := GoodL _ _ _) goodL_no fun _ _ h => ?_
  subst h
  refine rV_ok (p := GoodL _ _ _) goodL_no fun _ h => ?_
  subst h
  refine vI_ok (p := GoodL _ _ _) goodL_no fun _ h => ?_
  subst h
  refine gV_ok (p := GoodL _ _ _) goodL_no fun _ _ h => ?_
  subst h
  refine rV_ok (p := GoodL _ _ _) goodL_no fun _ h => ?_
  subst h
  refine vI_ok (p := GoodL _ _ _) goodL_no fun _ h => ?_
  subst h
  refine gE_ok (p := GoodL _ _ _) goodL_no fun h => ?_
  subst h
  refine mRow_ok (p := GoodL _ _ _) goodL_no fun _ _ h => ?_
  subst h
  refine gE_ok (p := GoodL _ _ _) goodL_no fun h => ?_
  subst h
  refine gN_ok (p := GoodL _ _ _) goodL_no fun h => ?_
  subst h
  exact f72.l25.good k _ _ _ _ _ _
theorem f72.l22.nat {R : Type} (k : Nat) (rec_ : Int → Int → (List (List Int)) → Option ((List (List Int)))) (g : ((List (List Int))) → Option R) (a27 : Int) (a28 : Int) (xs29 : List (List Int)) : (f72.l22.step k rec_ some a27 a28 xs29).bind g = f72.l22.step k (fun a27 a28 xs29 => (rec_ a27 a28 xs29).bind g) g a27 a28 xs29 := by
  simp only [f72.l22.step, bind_ite, bind_sum, Option.bind_assoc, Option.bind_some, Option.bind_none]
theorem f72.l22.good (k : Nat) (a27 : Int) (a28 : Int) (xs29 : List (List Int)) : GoodL (f72.X k) (nthC 3 (loopsOf (bodyOf Try.f72))) (f72.l22.st a27 a28 xs29) { α := ((List (List Int))), o := f72.l22 k k a27 a28 xs29, w := f72.l22.w } :=
  loop_good (ι := Int × Int × (List (List Int))) (α := ((List (List Int)))) (fun i => f72.l22.st i.1 i.2.1 i.2.2) (fun j i => f72.l22 k j i.1 i.2.1 i.2.2) f72.l22.w (fun rec_ ret i => f72.l22.step k (fun a27 a28 xs29 => rec_ (a27, a28, xs29)) ret i.1 i.2.1 i.2.2)
    (fun _ => rfl) (fun _ _ => rfl) (fun rec_ g i => f72.l22.nat k _ g i.1 i.2.1 i.2.2) (fun {R} i0 i rec_ K => by kernel_rfl) k (a27, a28, xs29)
theorem f72.l22.all (k : Nat) (S : St env) : GoodL (f72.X k) (nthC 3 (loopsOf (bodyOf Try.f72))) S (f72.l22.hd k S.ts S.m S.n) := by
  obtain ⟨ts_, m_, n_⟩ := S
  show GoodL _ _ _ (f72.l22.hd k ts_ m_ n_)
  unfold f72.l22.hd
  refine gTs_ok (p := GoodL _ _ _) goodL_no fun _ h => ?_
  subst h
  refine gV_ok (p := GoodL _ _ _) goodL_no fun _ _ h => ?_
  subst h
  refine rRow_ok (p := GoodL _ _ _) goodL_no fun h => ?_
  subst h
  refine gV_ok (p := GoodL _ _ _) goodL_no fun _ _ h => ?_
  subst h
  refine rV_ok (p := GoodL _ _ _) goodL_no fun _ h => ?_
  subst h
  refine vI_ok (p := GoodL _ _ _) goodL_no fun _ h => ?_
  subst h
  refine gV_ok (p := GoodL _ _ _) goodL_no fun _ _ h => ?_
  subst h
  refine rV_ok (p := GoodL _ _ _) goodL_no fun _ h => ?_
  subst h
  refine vI_ok (p := GoodL _ _ _) goodL_no fun _ h => ?_
  subst h
  refine gE_ok (p := GoodL _ _ _) goodL_no fun h => ?_
  subst h
  refine mRow_ok (p := GoodL _ _ _) goodL_no fun _ _ h => ?_
  subst h
  refine gE_ok (p := GoodL _ _ _) goodL_no fun h => ?_
  subst h
  refine gN_ok (p := GoodL _ _ _) goodL_no fun h => ?_
  subst h
  exact f72.l22.good k _ _ _
theorem f72.nat {R : Type} (k : Nat) (g : (Int ⊕ ((List (List Int)) × Int)) → Option R) (xs1 : List S146) (xs2 : List (List S142)) (a3 : Int) : f72.step k g xs1 xs2 a3 = (f72 k xs1 xs2 a3).bind g := by
  simp only [f72, f72.step, bind_ite, bind_sum, Option.bind_assoc, Option.bind_some, Option.bind_none]
theorem f72.ev (k : Nat) (xs1 : List S146) (xs2 : List (List S142)) (a3 : Int) : evF (f72.X k) (bodyOf Try.f72) Try.f72.ntmps Try.f72.results.toList [.g [.sl 146 xs1, .sl 140 xs2, .s (.int .i64 a3)]] = f72.step k (fun x => f72.w x some) xs1 xs2 a3 := by kernel_rfl
theorem f72.hok (k : Nat) : HOK (f72.X k) (bodyOf Try.f72) where
  l := allP_mem (by exact ⟨ls_of (h0 := fun S => f72.l5.hd k S.ts S.m S.n) (by kernel_rfl) (f72.l5.all k), ls_of (h0 := fun S => f72.l9.hd k S.ts S.m S.n) (by kernel_rfl) (f72.l9.all k), ls_of (h0 := fun S => f72.l16.hd k S.ts S.m S.n) (by kernel_rfl) (f72.l16.all k), ls_of (h0 := fun S => f72.l22.hd k S.ts S.m S.n) (by kernel_rfl) (f72.l22.all k), ls_of (h0 := fun S => f72.l25.hd k S.ts S.m S.n) (by kernel_rfl) (f72.l25.all k), ls_of (h0 := fun S => f72.l28.hd k S.ts S.m S.n) (by kernel_rfl) (f72.l28.all k), trivial⟩)
  j := allP_mem (by exact trivial)
theorem f72.sound0 (k : Nat) : SoundC env Try.prog 72 (f72.hd k) := by
  intro ps_
  show GoodC _ _ _ ps_ (f72.hd k ps_)
  unfold f72.hd
  refine gC_ok (p := GoodC env Try.prog 72 _) goodC_no fun _ _ h => ?_
  subst h
  refine qG_ok (p := GoodC env Try.prog 72 _) goodC_no fun _ h => ?_
  subst h
  refine gC_ok (p := GoodC env Try.prog 72 _) goodC_no fun _ _ h => ?_
  subst h
  refine qSl_ok (p := GoodC env Try.prog 72 _) goodC_no fun _ h => ?_
  subst h
  refine gC_ok (p := GoodC env Try.prog 72 _) goodC_no fun _ _ h => ?_
  subst h
  refine qSl_ok (p := GoodC env Try.prog 72 _) goodC_no fun _ h => ?_
  subst h
  refine gC_ok (p := GoodC env Try.prog 72 _) goodC_no fun _ _ h => ?_
  subst h
  refine qS_ok (p := GoodC env Try.prog 72 _) goodC_no fun _ h => ?_
  subst h
  refine vI_ok (p := GoodC env Try.prog 72 _) goodC_no fun _ h => ?_
  subst h
  refine gE_ok (p := GoodC env Try.prog 72 _) goodC_no fun h => ?_
  subst h
  refine gE_ok (p := GoodC env Try.prog 72 _) goodC_no fun h => ?_
  subst h
  exact fun_good (fun_sound envOK (cs_sound _ (by exact ⟨⟨f44.sound k, f44.fnok⟩, trivial⟩)) (f72.hok k) Try.func72 rfl) ((f72.ev k _ _ _).trans (f72.nat k _ _ _ _))
theorem f72.sound (k : Nat) : SoundC env Try.prog 72 (f72.e k).F := soundC_coer (f72.sound0 k) [[.rd 146, .rd 140, .no]]
theorem f72.fnok : FnOK Try.prog 72 := fn_ok Try.func72 (by kernel_rfl) rfl
def f25.l4.step {R : Type} (k : Nat) (rec_ : (List Int) → (List Int) → Int → Option R) (ret : (Bool ⊕ (Unit)) → Option R) (xs3 : List Int) (xs4 : List Int) (a5 : Int) : Option R :=
  if (decide (a5 < (((List.length xs3) : Nat) : Int))) = true then
    if (0 : Int) ≤ a5 then
      if a5 < ((List.length xs3 : Nat) : Int) then
        if (0 : Int) ≤ a5 then
          if a5 < ((List.length xs4 : Nat) : Int) then
            if (decide ((List.getD xs3 (Int.toNat a5) (0 : Int)) ≠ (List.getD xs4 (Int.toNat a5) (0 : Int)))) = true then
              ret (.inl false)
            else
              rec_ xs3 xs4 (IntKind.i64.wrap (a5 + (1 : Int)))
          else none
        else none
      else none
    else none
  else
    ret (.inr ())
def f25.l4 (k : Nat) : Nat → (List Int) → (List Int) → Int → Option (Bool ⊕ (Unit))
  | 0, _, _, _ => none
  | j + 1, xs3, xs4, a5 => f25.l4.step k (fun xs3 xs4 a5 => f25.l4 k j xs3 xs4 a5) some xs3 xs4 a5
def f25.l4.w {R : Type} : (Bool ⊕ (Unit)) → (Exit → St env → Option R) → Option R := fun x K => Sum.elim (fun t8 => K .ret ⟨fullT [4] 0 26 [.v (.c (.s (.bool t8)))], [], 386⟩) (fun t9 => K (.exit 0) ⟨fullT [] 0 26 [], [], 386⟩) x
def f25.l4.st (xs3 : List Int) (xs4 : List Int) (a5 : Int) : St env := ⟨fullT [0, 1, 5] 0 26 [.v (.c (.imm 3 xs3)), .v (.c (.imm 3 xs4)), .v (.c (.s (.int .i64 a5)))], [], 114⟩
def f25.l4.hd (k : Nat) (ts_ : List (AV env)) (mm_ : Mem env) (n_ : Nat) : LCl env :=
  gTs LCl.no [0, 1, 5] 26 ts_ fun l_ => gV LCl.no l_ fun a_ l_ => rImm LCl.no 3 a_ fun xs3 => gV LCl.no l_ fun a_ l_ => rImm LCl.no 3 a_ fun xs4 => gV LCl.no l_ fun a_ l_ => rV LCl.no a_ fun v_ => vI LCl.no .i64 v_ fun a5 => gE LCl.no l_ <| gE LCl.no mm_ <| gN LCl.no 114 n_ { α := Bool ⊕ (Unit), o := f25.l4 k k xs3 xs4 a5, w := f25.l4.w }
def f25.step {R : Type} (k : Nat) (ret : Bool → Option R) (xs1 : List Int) (xs2 : List Int) : Option R :=
  if (decide ((((List.length xs1) : Nat) : Int) ≠ (((List.length xs2) : Nat) : Int))) = true then
    ret false
  else
    (f25.l4 k k xs1 xs2 (0 : Int)).bind (Sum.elim (fun t6 => ret t6) (fun t7 => ret true))
def f25 (k : Nat) (xs1 : List Int) (xs2 : List Int) : Option Bool := f25.step k some xs1 xs2
def f25.w {R : Type} : Bool → (Res env → Option R) → Option R := fun t10 K => K ⟨.v (.c (.s (.bool t10))), [[], []]⟩
theorem f25.wn (x : Bool) : ∃ res, ∀ {R : Type} (K : Res env → Option R), f25.w x K = K res := by
  exact ⟨_, fun _ => rfl⟩
def f25.hd (k : Nat) (ps_ : List (P2 env)) : Cl env :=
  gC Cl.no ps_ fun p_ ps_ => qC Cl.no p_ fun c_ => qSl Cl.no 3 c_ fun xs1 => gC Cl.no ps_ fun p_ ps_ => qC Cl.no p_ fun c_ => qSl Cl.no 3 c_ fun xs2 => gE Cl.no ps_ <| { α := Bool, o := f25 k xs1 xs2, w := f25.w, nat := fun x _ => f25.wn x }
def f25.e (k : Nat) : Entry env := ⟨fun ps => f25.hd k (coer [[.rd 3], [.rd 3]] ps), [], []⟩
def f25.X (k : Nat) : Ctx env := { C := lookE [], L := lookE [(4, fun S => f25.l4.hd k S.ts S.m S.n)], J := lookE [], keep := lookD [(4, [0, 1, 5])], keepX := lookD [(4, [4])], span := lookN [(4, 272)], eff := fun n => memN n [], prep := lookP [], np := 0 }
theorem f25.l4.nat {R : Type} (k : Nat) (rec_ : (List Int) → (List Int) → Int → Option (Bool ⊕ (Unit))) (g : (Bool ⊕ (Unit)) → Option R) (xs3 : List Int) (xs4 : List Int) (a5 : Int) : (f25.l4.step k rec_ some xs3 xs4 a5).bind g = f25.l4.step k (fun xs3 xs4 a5 => (rec_ xs3 xs4 a5).bind g) g xs3 xs4 a5 := by
  simp only [f25.l4.step, bind_ite, bind_sum, Option.bind_assoc, Option.bind_some, Option.bind_none]
theorem f25.l4.good (k : Nat) (xs3 : List Int) (xs4 : List Int) (a5 : Int) : GoodL (f25.X k) (nthC 0 (loopsOf (bodyOf Try.f25))) (f25.l4.st xs3 xs4 a5) { α := (Bool ⊕ (Unit)), o := f25.l4 k k xs3 xs4 a5, w := f25.l4.w } :=
  loop_good (ι := (List Int) × (List Int) × Int) (α := (Bool ⊕ (Unit))) (fun i => f25.l4.st i.1 i.2.1 i.2.2) (fun j i => f25.l4 k j i.1 i.2.1 i.2.2) f25.l4.w (fun rec_ ret i => f25.l4.step k (fun xs3 xs4 a5 => rec_ (xs3, xs4, a5)) ret i.1 i.2.1 i.2.2)
    (fun _ => rfl) (fun _ _ => rfl) (fun rec_ g i => f25.l4.nat k _ g i.1 i.2.1 i.2.2) (fun {R} i0 i rec_ K => by kernel_rfl) k (xs3, xs4, a5)
theorem f25.l4.all (k : Nat) (S : St env) : GoodL (f25.X k) (nthC 0 (loopsOf (bodyOf Try.f25))) S (f25.l4.hd k S.ts S.m S.n) := by
  obtain ⟨ts_, m_, n_⟩ := S
  show GoodL _ _ _ (f25.l4.hd k ts_ m_ n_)
  unfold f25.l4.hd
  refine gTs_ok (p := GoodL _ _ _) goodL_no fun _ h => ?_
  subst h
  refine gV_ok (p := GoodL _ _ _) goodL_no fun _ _ h => ?_
  subst h
  refine rImm_ok (p := GoodL _ _ _) goodL_no fun _ h => ?_
  subst h
  refine gV_ok (p := GoodL _ _ _) goodL_no fun _ _ h => ?_
  subst h
  refine rImm_ok (p := GoodL _ _ _) goodL_no fun _ h => ?_
  subst h
  refine gV_ok (p := GoodL _ _ _) goodL_no fun _ _ h => ?_
  subst h
  refine rV_ok (p := GoodL _ _ _) goodL_no fun _ h => ?_
  subst h
  refine vI_ok (p := GoodL _ _ _) goodL_no fun _ h => ?_
  subst h
  refine gE_ok (p := GoodL _ _ _) goodL_no fun h => ?_
  subst h
  refine gE_ok (p := GoodL _ _ _) goodL_no fun h => ?_
  subst h
  refine gN_ok (p := GoodL _ _ _) goodL_no fun h => ?_
  subst h
  exact f25.l4.good k _ _ _
theorem f25.nat {R : Type} (k : Nat) (g : Bool → Option R) (xs1 : List Int) (xs2 : List Int) : f25.step k g xs1 xs2 = (f25 k xs1 xs2).bind g := by
  simp only [f25, f25.step, bind_ite, bind_sum, Option.bind_assoc, Option.bind_some, Option.bind_none]
theorem f25.ev (k : Nat) (xs1 : List Int) (xs2 : List Int) : evF (f25.X k) (bodyOf Try.f25) Try.f25.ntmps Try.f25.results.toList [.v (.c (.sl 3 xs1)), .v (.c (.sl 3 xs2))] = f25.step k (fun x => f25.w x some) xs1 xs2 := by kernel_rfl
theorem f25.hok (k : Nat) : HOK (f25.X k) (bodyOf Try.f25) where
  l := allP_mem (by exact ⟨ls_of (h0 := fun S => f25.l4.hd k S.ts S.m S.n) (by kernel_rfl) (f25.l4.all k), trivial⟩)
  j := allP_mem (by exact trivial)
theorem f25.sound0 (k : Nat) : SoundC env Try.prog 25 (f25.hd k) := by
  intro ps_
  show GoodC _ _ _ ps_ (f25.hd k ps_)
  unfold f25.hd
  refine gC_ok (p := GoodC env Try.prog 25 _) goodC_no fun _ _ h => ?_
  subst h
  refine qC_ok (p := GoodC env Try.prog 25 _) goodC_no fun _ h => ?_
  subst h
  refine qSl_ok (p := GoodC env Try.prog 25 _) goodC_no fun _ h => ?_
  subst h
  refine gC_ok (p := GoodC env Try.prog 25 _) goodC_no fun _ _ h => ?_
  subst h
  refine qC_ok (p := GoodC env Try.prog 25 _) goodC_no fun _ h => ?_
  subst h
  refine qSl_ok (p := GoodC env Try.prog 25 _) goodC_no fun _ h => ?_
  subst h
  refine gE_ok (p := GoodC env Try.prog 25 _) goodC_no fun h => ?_
  subst h
  exact fun_good (fun_sound envOK (cs_sound _ (by exact trivial)) (f25.hok k) Try.func25 rfl) ((f25.ev k _ _).trans (f25.nat k _ _ _))
theorem f25.sound (k : Nat) : SoundC env Try.prog 25 (f25.e k).F := soundC_coer (f25.sound0 k) [[.rd 3], [.rd 3]]
theorem f25.says (k : Nat) (xs1 : List Int) (xs2 : List Int) (t11 : Bool) (h_ : f25 k xs1 xs2 = some t11) : SoundAt env Try.prog 25 [.v (.c (.sl 3 xs1)), .v (.c (.sl 3 xs2))] ⟨.v (.c (.s (.bool t11))), [[], []]⟩ :=
  fun_sound envOK (cs_sound _ (by exact trivial)) (f25.hok k) Try.func25 rfl _ _ (((f25.ev k xs1 xs2).trans (f25.nat k _ xs1 xs2)).trans (by rw [h_]; rfl))
theorem f25.fnok : FnOK Try.prog 25 := fn_ok Try.func25 (by kernel_rfl) rfl
def f73.l4.step {R : Type} (k : Nat) (rec_ : (List (List Int)) → (List (List Int)) → Int → Option R) (ret : (Bool ⊕ (Unit)) → Option R) (xs3 : List (List Int)) (xs4 : List (List Int)) (a5 : Int) : Option R :=
  if (decide (a5 < (((List.length xs3) : Nat) : Int))) = true then
    if (0 : Int) ≤ a5 then
      if a5 < ((List.length xs3 : Nat) : Int) then
        if (0 : Int) ≤ a5 then
          if a5 < ((List.length xs4 : Nat) : Int) then
            (f25 k (List.getD xs3 (Int.toNat a5) []) (List.getD xs4 (Int.toNat a5) [])).bind fun t6 => if (!t6) = true then
                ret (.inl false)
              else
                rec_ xs3 xs4 (IntKind.i64.wrap (a5 + (1 : Int)))
          else none
        else none
      else none
    else none
  else
    ret (.inr ())
def f73.l4 (k : Nat) : Nat → (List (List Int)) → (List (List Int)) → Int → Option (Bool ⊕ (Unit))
  | 0, _, _, _ => none
  | j + 1, xs3, xs4, a5 => f73.l4.step k (fun xs3 xs4 a5 => f73.l4 k j xs3 xs4 a5) some xs3 xs4 a5
def f73.l4.w {R : Type} : (Bool ⊕ (Unit)) → (Exit → St env → Option R) → Option R := fun x K => Sum.elim (fun t9 => K .ret ⟨fullT [4] 0 27 [.v (.c (.s (.bool t9)))], [], 402⟩) (fun t10 => K (.exit 0) ⟨fullT [] 0 27 [], [], 402⟩) x
def f73.l4.st (xs3 : List (List Int)) (xs4 : List (List Int)) (a5 : Int) : St env := ⟨fullT [0, 1, 5] 0 27 [.v (.c (.imm 33 xs3)), .v (.c (.imm 33 xs4)), .v (.c (.s (.int .i64 a5)))], [], 114⟩
def f73.l4.hd (k : Nat) (ts_ : List (AV env)) (mm_ : Mem env) (n_ : Nat) : LCl env :=
  gTs LCl.no [0, 1, 5] 27 ts_ fun l_ => gV LCl.no l_ fun a_ l_ => rImm LCl.no 33 a_ fun xs3 => gV LCl.no l_ fun a_ l_ => rImm LCl.no 33 a_ fun xs4 => gV LCl.no l_ fun a_ l_ => rV LCl.no a_ fun v_ => vI LCl.no .i64 v_ fun a5 => gE LCl.no l_ <| gE LCl.no mm_ <| gN LCl.no 114 n_ { α := Bool ⊕ (Unit), o := f73.l4 k k xs3 xs4 a5, w := f73.l4.w }
def f73.step {R : Type} (k : Nat) (ret : Bool → Option R) (xs1 : List (List Int)) (xs2 : List (List Int)) : Option R :=
  if (decide ((((List.length xs1) : Nat) : Int) ≠ (((List.length xs2) : Nat) : Int))) = true then
    ret false
  else
    (f73.l4 k k xs1 xs2 (0 : Int)).bind (Sum.elim (fun t7 => ret t7) (fun t8 => ret true))
def f73 (k : Nat) (xs1 : List (List Int)) (xs2 : List (List Int)) : Option Bool := f73.step k some xs1 xs2
def f73.w {R : Type} : Bool → (Res env → Option R) → Option R := fun t11 K => K ⟨.v (.c (.s (.bool t11))), [[], []]⟩
theorem f73.wn (x : Bool) : ∃ res, ∀ {R : Type} (K : Res env → Option R), f73.w x K = K res := by
  exact ⟨_, fun _ => rfl⟩
def f73.hd (k : Nat) (ps_ : List (P2 env)) : Cl env :=
  gC Cl.no ps_ fun p_ ps_ => qC Cl.no p_ fun c_ => qSl Cl.no 33 c_ fun xs1 => gC Cl.no ps_ fun p_ ps_ => qC Cl.no p_ fun c_ => qSl Cl.no 33 c_ fun xs2 => gE Cl.no ps_ <| { α := Bool, o := f73 k xs1 xs2, w := f73.w, nat := fun x _ => f73.wn x }
def f73.e (k : Nat) : Entry env := ⟨fun ps => f73.hd k (coer [[.rd 33], [.rd 33]] ps), [], []⟩
def f73.X (k : Nat) : Ctx env := { C := lookE [(25, f25.e k)], L := lookE [(4, fun S => f73.l4.hd k S.ts S.m S.n)], J := lookE [], keep := lookD [(4, [0, 1, 5])], keepX := lookD [(4, [4])], span := lookN [(4, 288)], eff := fun n => memN n [], prep := lookP [], np := 0 }
theorem f73.l4.nat {R : Type} (k : Nat) (rec_ : (List (List Int)) → (List (List Int)) → Int → Option (Bool ⊕ (Unit))) (g : (Bool ⊕ (Unit)) → Option R) (xs3 : List (List Int)) (xs4 : List (List Int)) (a5 : Int) : (f73.l4.step k rec_ some xs3 xs4 a5).bind g = f73.l4.step k (fun xs3 xs4 a5 => (rec_ xs3 xs4 a5).bind g) g xs3 xs4 a5 := by
  simp only [f73.l4.step, bind_ite, bind_sum, Option.bind_assoc, Option.bind_some, Option.bind_none]
theorem f73.l4.good (k : Nat) (xs3 : List (List Int)) (xs4 : List (List Int)) (a5 : Int) : GoodL (f73.X k) (nthC 0 (loopsOf (bodyOf Try.f73))) (f73.l4.st xs3 xs4 a5) { α := (Bool ⊕ (Unit)), o := f73.l4 k k xs3 xs4 a5, w := f73.l4.w } :=
  loop_good (ι := (List (List Int)) × (List (List Int)) × Int) (α := (Bool ⊕ (Unit))) (fun i => f73.l4.st i.1 i.2.1 i.2.2) (fun j i => f73.l4 k j i.1 i.2.1 i.2.2) f73.l4.w (fun rec_ ret i => f73.l4.step k (fun xs3 xs4 a5 => rec_ (xs3, xs4, a5)) ret i.1 i.2.1 i.2.2)
    (fun _ => rfl) (fun _ _ => rfl) (fun rec_ g i => f73.l4.nat k _ g i.1 i.2.1 i.2.2) (fun {R} i0 i rec_ K => by kernel_rfl) k (xs3, xs4, a5)
theorem f73.l4.all (k : Nat) (S : St env) : GoodL (f73.X k) (nthC 0 (loopsOf (bodyOf Try.f73))) S (f73.l4.hd k S.ts S.m S.n) := by
  obtain ⟨ts_, m_, n_⟩ := S
  show GoodL _ _ _ (f73.l4.hd k ts_ m_ n_)
  unfold f73.l4.hd
  refine gTs_ok (p := GoodL _ _ _) goodL_no fun _ h => ?_
  subst h
  refine gV_ok (p := GoodL _ _ _) goodL_no fun _ _ h => ?_
  subst h
  refine rImm_ok (p := GoodL _ _ _) goodL_no fun _ h => ?_
  subst h
  refine gV_ok (p := GoodL _ _ _) goodL_no fun _ _ h => ?_
  subst h
  refine rImm_ok (p := GoodL _ _ _) goodL_no fun _ h => ?_
  subst h
  refine gV_ok (p := GoodL _ _ _) goodL_no fun _ _ h => ?_
  subst h
  refine rV_ok (p := GoodL _ _ _) goodL_no fun _ h => ?_
  subst h
  refine vI_ok (p := GoodL _ _ _) goodL_no fun _ h => ?_
  subst h
  refine gE_ok (p := GoodL _ _ _) goodL_no fun h => ?_
  subst h
  refine gE_ok (p := GoodL _ _ _) goodL_no fun h => ?_
  subst h
  refine gN_ok (p := GoodL _ _ _) goodL_no fun h => ?_
  subst h
  exact f73.l4.good k _ _ _
theorem f73.nat {R : Type} (k : Nat) (g : Bool → Option R) (xs1 : List (List Int)) (xs2 : List (List Int)) : f73.step k g xs1 xs2 = (f73 k xs1 xs2).bind g := by
  simp only [f73, f73.step, bind_ite, bind_sum, Option.bind_assoc, Option.bind_some, Option.bind_none]
theorem f73.ev (k : Nat) (xs1 : List (List Int)) (xs2 : List (List Int)) : evF (f73.X k) (bodyOf Try.f73) Try.f73.ntmps Try.f73.results.toList [.v (.c (.sl 33 xs1)), .v (.c (.sl 33 xs2))] = f73.step k (fun x => f73.w x some) xs1 xs2 := by kernel_rfl
theorem f73.hok (k : Nat) : HOK (f73.X k) (bodyOf Try.f73) where
  l := allP_mem (by exact ⟨ls_of (h0 := fun S => f73.l4.hd k S.ts S.m S.n) (by kernel_rfl) (f73.l4.all k), trivial⟩)
  j := allP_mem (by exact trivial)
theorem f73.sound0 (k : Nat) : SoundC env Try.prog 73 (f73.hd k) := by
  intro ps_
  show GoodC _ _ _ ps_ (f73.hd k ps_)
  unfold f73.hd
  refine gC_ok (p := GoodC env Try.prog 73 _) goodC_no fun _ _ h => ?_
  subst h
  refine qC_ok (p := GoodC env Try.prog 73 _) goodC_no fun _ h => ?_
  subst h
  refine qSl_ok (p := GoodC env Try.prog 73 _) goodC_no fun _ h => ?_
  subst h
  refine gC_ok (p := GoodC env Try.prog 73 _) goodC_no fun _ _ h => ?_
  subst h
  refine qC_ok (p := GoodC env Try.prog 73 _) goodC_no fun _ h => ?_
  subst h
  refine qSl_ok (p := GoodC env Try.prog 73 _) goodC_no fun _ h => ?_
  subst h
  refine gE_ok (p := GoodC env Try.prog 73 _) goodC_no fun h => ?_
  subst h
  exact fun_good (fun_sound envOK (cs_sound _ (by exact ⟨⟨f25.sound k, f25.fnok⟩, trivial⟩)) (f73.hok k) Try.func73 rfl) ((f73.ev k _ _).trans (f73.nat k _ _ _))
theorem f73.sound (k : Nat) : SoundC env Try.prog 73 (f73.e k).F := soundC_coer (f73.sound0 k) [[.rd 33], [.rd 33]]
theorem f73.says (k : Nat) (xs1 : List (List Int)) (xs2 : List (List Int)) (t12 : Bool) (h_ : f73 k xs1 xs2 = some t12) : SoundAt env Try.prog 73 [.v (.c (.sl 33 xs1)), .v (.c (.sl 33 xs2))] ⟨.v (.c (.s (.bool t12))), [[], []]⟩ :=
  fun_sound envOK (cs_sound _ (by exact ⟨⟨f25.sound k, f25.fnok⟩, trivial⟩)) (f73.hok k) Try.func73 rfl _ _ (((f73.ev k xs1 xs2).trans (f73.nat k _ xs1 xs2)).trans (by rw [h_]; rfl))
theorem f73.fnok : FnOK Try.prog 73 := fn_ok Try.func73 (by kernel_rfl) rfl
def f159.step {R : Type} (k : Nat) (ret : Bool → Option R) (a1 : Int) (a2 : Int) (a3 : Int) (b4 : Bool) (a5 : Int) (a6 : Int) (a7 : Int) (b8 : Bool) : Option R :=
  if (decide (a1 ≠ a5)) = true then
    ret false
  else
    if (decide (a2 ≠ a6)) = true then
      ret false
    else
      if (decide (a3 ≠ a7)) = true then
        ret false
      else
        if (!(b4 == b8)) = true then
          ret false
        else
          ret true
def f159 (k : Nat) (a1 : Int) (a2 : Int) (a3 : Int) (b4 : Bool) (a5 : Int) (a6 : Int) (a7 : Int) (b8 : Bool) : Option Bool := f159.step k some a1 a2 a3 b4 a5 a6 a7 b8
def f159.w {R : Type} : Bool → (Res env → Option R) → Option R := fun t9 K => K ⟨.v (.c (.s (.bool t9))), [[], []]⟩
theorem f159.wn (x : Bool) : ∃ res, ∀ {R : Type} (K : Res env → Option R), f159.w x K = K res := by
  exact ⟨_, fun _ => rfl⟩
def f159.hd (k : Nat) (ps_ : List (P2 env)) : Cl env :=
  gC Cl.no ps_ fun p_ ps_ => qG Cl.no p_ fun cs_ => gC Cl.no cs_ fun c_ cs_ => qS Cl.no c_ fun v_ => vI Cl.no .i64 v_ fun a1 => gC Cl.no cs_ fun c_ cs_ => qS Cl.no c_ fun v_ => vI Cl.no .i64 v_ fun a2 => gC Cl.no cs_ fun c_ cs_ => qS Cl.no c_ fun v_ => vI Cl.no .i64 v_ fun a3 => gC Cl.no cs_ fun c_ cs_ => qS Cl.no c_ fun v_ => vB Cl.no v_ fun b4 => gE Cl.no cs_ <| gC Cl.no ps_ fun p_ ps_ => qG Cl.no p_ fun cs_ => gC Cl.no cs_ fun c_ cs_ => qS Cl.no c_ fun v_ => vI Cl.no .i64 v_ fun a5 => gC Cl.no cs_ fun c_ cs_ => qS Cl.no c_ fun v_ => vI Cl.no .i64 v_ fun a6 => gC Cl.no cs_ fun c_ cs_ => qS Cl.no c_ fun v_ => vI Cl.no .i64 v_ fun a7 => gC Cl.no cs_ fun c_ cs_ => qS Cl.no c_ fun v_ => vB Cl.no v_ fun b8 => gE Cl.no cs_ <| gE Cl.no ps_ <| { α := Bool, o := f159 k a1 a2 a3 b4 a5 a6 a7 b8, w := f159.w, nat := fun x _ => f159.wn x }
def f159.e (k : Nat) : Entry env := ⟨f159.hd k, [], []⟩
def f159.X (k : Nat) : Ctx env := { C := lookE [], L := lookE [], J := lookE [], keep := lookD [], keepX := lookD [], span := lookN [], eff := fun n => memN n [], prep := lookP [], np := 0 }
theorem f159.nat {R : Type} (k : Nat) (g : Bool → Option R) (a1 : Int) (a2 : Int) (a3 : Int) (b4 : Bool) (a5 : Int) (a6 : Int) (a7 : Int) (b8 : Bool) : f159.step k g a1 a2 a3 b4 a5 a6 a7 b8 = (f159 k a1 a2 a3 b4 a5 a6 a7 b8).bind g := by
  simp only [f159, f159.step, bind_ite, bind_sum, Option.bind_assoc, Option.bind_some, Option.bind_none]
theorem f159.ev (k : Nat) (a1 : Int) (a2 : Int) (a3 : Int) (b4 : Bool) (a5 : Int) (a6 : Int) (a7 : Int) (b8 : Bool) : evF (f159.X k) (bodyOf Try.f159) Try.f159.ntmps Try.f159.results.toList [.g [.s (.int .i64 a1), .s (.int .i64 a2), .s (.int .i64 a3), .s (.bool b4)], .g [.s (.int .i64 a5), .s (.int .i64 a6), .s (.int .i64 a7), .s (.bool b8)]] = f159.step k (fun x => f159.w x some) a1 a2 a3 b4 a5 a6 a7 b8 := by kernel_rfl
theorem f159.hok (k : Nat) : HOK (f159.X k) (bodyOf Try.f159) where
  l := allP_mem (by exact trivial)
  j := allP_mem (by exact trivial)
theorem f159.sound (k : Nat) : SoundC env Try.prog 159 ((f159.e k).F) := by
  intro ps_
  show GoodC _ _ _ ps_ (f159.hd k ps_)
  unfold f159.hd
  refine gC_ok (p := GoodC env Try.prog 159 _) goodC_no fun _ _ h => ?_
  subst h
  refine qG_ok (p := GoodC env Try.prog 159 _) goodC_no fun _ h => ?_
  subst h
  refine gC_ok (p := GoodC env Try.prog 159 _) goodC_no fun _ _ h => ?_
  subst h
  refine qS_ok (p := GoodC env Try.prog 159 _) goodC_no fun _ h => ?_
  subst h
  refine vI_ok (p := GoodC env Try.prog 159 _) goodC_no fun _ h => ?_
  subst h
  refine gC_ok (p := GoodC env Try.prog 159 _) goodC_no fun _ _ h => ?_
  subst h
  refine qS_ok (p := GoodC env Try.prog 159 _) goodC_no fun _ h => ?_
  subst h
  refine vI_ok (p := GoodC env Try.prog 159 _) goodC_no fun _ h => ?_
  subst h
  refine gC_ok (p := GoodC env Try.prog 159 _) goodC_no fun _ _ h => ?_
  subst h
  refine qS_ok (p := GoodC env Try.prog 159 _) goodC_no fun _ h => ?_
  subst h
  refine vI_ok (p := GoodC env Try.prog 159 _) goodC_no fun _ h => ?_
  subst h
  refine gC_ok (p := GoodC env Try.prog 159 _) goodC_no fun _ _ h => ?_
  subst h
  refine qS_ok (p := GoodC env Try.prog 159 _) goodC_no fun _ h => ?_
  subst h
  refine vB_ok (p := GoodC env Try.prog 159 _) goodC_no fun _ h => ?_
  subst h
  refine gE_ok (p := GoodC env Try.prog 159 _) goodC_no fun h => ?_
  subst h
  refine gC_ok (p := GoodC env Try.prog 159 _) goodC_no fun _ _ h => ?_
  subst h
  refine qG_ok (p := GoodC env Try.prog 159 _) goodC_no fun _ h => ?_
  subst h
  refine gC_ok (p := GoodC env Try.prog 159 _) goodC_no fun _ _ h => ?_
  subst h
  refine qS_ok (p := GoodC env Try.prog 159 _) goodC_no fun _ h => ?_
  subst h
  refine vI_ok (p := GoodC env Try.prog 159 _) goodC_no fun _ h => ?_
  subst h
  refine gC_ok (p := GoodC env Try.prog 159 _) goodC_no fun _ _ h => ?_
  subst h
  refine qS_ok (p := GoodC env Try.prog 159 _) goodC_no fun _ h => ?_
  subst h
  refine vI_ok (p := GoodC env Try.prog 159 _) goodC_no fun _ h => ?_
  subst h
  refine gC_ok (p := GoodC env Try.prog 159 _) goodC_no fun _ _ h => ?_
  subst h
  refine qS_ok (p := GoodC env Try.prog 159 _) goodC_no fun _ h => ?_
  subst h
  refine vI_ok (p := GoodC env Try.prog 159 _) goodC_no fun _ h => ?_
  subst h
  refine gC_ok (p := GoodC env Try.prog 159 _) goodC_no fun _ _ h => ?_
  subst h
  refine qS_ok (p := GoodC env Try.prog 159 _) goodC_no fun _ h => ?_
  subst h
  refine vB_ok (p := GoodC env Try.prog 159 _) goodC_no fun _ h => ?_
  subst h
  refine gE_ok (p := GoodC env Try.prog 159 _) goodC_no fun h => ?_
  subst h
  refine gE_ok (p := GoodC env Try.prog 159 _) goodC_no fun h => ?_
  subst h
  exact fun_good (fun_sound envOK (cs_sound _ (by exact trivial)) (f159.hok k) Try.func159 rfl) ((f159.ev k _ _ _ _ _ _ _ _).trans (f159.nat k _ _ _ _ _ _ _ _ _))
theorem f159.says (k : Nat) (a1 : Int) (a2 : Int) (a3 : Int) (b4 : Bool) (a5 : Int) (a6 : Int) (a7 : Int) (b8 : Bool) (t10 : Bool) (h_ : f159 k a1 a2 a3 b4 a5 a6 a7 b8 = some t10) : SoundAt env Try.prog 159 [.g [.s (.int .i64 a1), .s (.int .i64 a2), .s (.int .i64 a3), .s (.bool b4)], .g [.s (.int .i64 a5), .s (.int .i64 a6), .s (.int .i64 a7), .s (.bool b8)]] ⟨.v (.c (.s (.bool t10))), [[], []]⟩ :=
  fun_sound envOK (cs_sound _ (by exact trivial)) (f159.hok k) Try.func159 rfl _ _ (((f159.ev k a1 a2 a3 b4 a5 a6 a7 b8).trans (f159.nat k _ a1 a2 a3 b4 a5 a6 a7 b8)).trans (by rw [h_]; rfl))
theorem f159.fnok : FnOK Try.prog 159 := fn_ok Try.func159 (by kernel_rfl) rfl
def f111.l4.step {R : Type} (k : Nat) (rec_ : (List S146) → (List S146) → Int → Option R) (ret : (Bool ⊕ (Unit)) → Option R) (xs3 : List S146) (xs4 : List S146) (a5 : Int) : Option R :=
  if (decide (a5 < (((List.length xs3) : Nat) : Int))) = true then
    if (0 : Int) ≤ a5 then
      if a5 < ((List.length xs3 : Nat) : Int) then
        if (0 : Int) ≤ a5 then
          if a5 < ((List.length xs4 : Nat) : Int) then
            (f159 k (List.getD xs3 (Int.toNat a5) (⟨(0 : Int), (0 : Int), (0 : Int), false⟩ : S146)).f0 (List.getD xs3 (Int.toNat a5) (⟨(0 : Int), (0 : Int), (0 : Int), false⟩ : S146)).f1 (List.getD xs3 (Int.toNat a5) (⟨(0 : Int), (0 : Int), (0 : Int), false⟩ : S146)).f2 (List.getD xs3 (Int.toNat a5) (⟨(0 : Int), (0 : Int), (0 : Int), false⟩ : S146)).f3 (List.getD xs4 (Int.toNat a5) (⟨(0 : Int), (0 : Int), (0 : Int), false⟩ : S146)).f0 (List.getD xs4 (Int.toNat a5) (⟨(0 : Int), (0 : Int), (0 : Int), false⟩ : S146)).f1 (List.getD xs4 (Int.toNat a5) (⟨(0 : Int), (0 : Int), (0 : Int), false⟩ : S146)).f2 (List.getD xs4 (Int.toNat a5) (⟨(0 : Int), (0 : Int), (0 : Int), false⟩ : S146)).f3).bind fun t6 => if (!t6) = true then
                ret (.inl false)
              else
                rec_ xs3 xs4 (IntKind.i64.wrap (a5 + (1 : Int)))
          else none
        else none
      else none
    else none
  else
    ret (.inr ())
def f111.l4 (k : Nat) : Nat → (List S146) → (List S146) → Int → Option (Bool ⊕ (Unit))
  | 0, _, _, _ => none
  | j + 1, xs3, xs4, a5 => f111.l4.step k (fun xs3 xs4 a5 => f111.l4 k j xs3 xs4 a5) some xs3 xs4 a5
def f111.l4.w {R : Type} : (Bool ⊕ (Unit)) → (Exit → St env → Option R) → Option R := fun x K => Sum.elim (fun t9 => K .ret ⟨fullT [4] 0 27 [.v (.c (.s (.bool t9)))], [], 402⟩) (fun t10 => K (.exit 0) ⟨fullT [] 0 27 [], [], 402⟩) x
def f111.l4.st (xs3 : List S146) (xs4 : List S146) (a5 : Int) : St env := ⟨fullT [0, 1, 5] 0 27 [.v (.c (.imm 146 xs3)), .v (.c (.imm 146 xs4)), .v (.c (.s (.int .i64 a5)))], [], 114⟩
def f111.l4.hd (k : Nat) (ts_ : List (AV env)) (mm_ : Mem env) (n_ : Nat) : LCl env :=
  gTs LCl.no [0, 1, 5] 27 ts_ fun l_ => gV LCl.no l_ fun a_ l_ => rImm LCl.no 146 a_ fun xs3 => gV LCl.no l_ fun a_ l_ => rImm LCl.no 146 a_ fun xs4 => gV LCl.no l_ fun a_ l_ => rV LCl.no a_ fun v_ => vI LCl.no .i64 v_ fun a5 => gE LCl.no l_ <| gE LCl.no mm_ <| gN LCl.no 114 n_ { α := Bool ⊕ (Unit), o := f111.l4 k k xs3 xs4 a5, w := f111.l4.w }
def f111.step {R : Type} (k : Nat) (ret : Bool → Option R) (xs1 : List S146) (xs2 : List S146) : Option R :=
  if (decide ((((List.length xs1) : Nat) : Int) ≠ (((List.length xs2) : Nat) : Int))) = true then
    ret false
  else
    (f111.l4 k k xs1 xs2 (0 : Int)).bind (Sum.elim (fun t7 => ret t7) (fun t8 => ret true))
def f111 (k : Nat) (xs1 : List S146) (xs2 : List S146) : Option Bool := f111.step k some xs1 xs2
def f111.w {R : Type} : Bool → (Res env → Option R) → Option R := fun t11 K => K ⟨.v (.c (.s (.bool t11))), [[], []]⟩
theorem f111.wn (x : Bool) : ∃ res, ∀ {R : Type} (K : Res env → Option R), f111.w x K = K res := by
  exact ⟨_, fun _ => rfl⟩
def f111.hd (k : Nat) (ps_ : List (P2 env)) : Cl env :=
  gC Cl.no ps_ fun p_ ps_ => qC Cl.no p_ fun c_ => qSl Cl.no 146 c_ fun xs1 => gC Cl.no ps_ fun p_ ps_ => qC Cl.no p_ fun c_ => qSl Cl.no 146 c_ fun xs2 => gE Cl.no ps_ <| { α := Bool, o := f111 k xs1 xs2, w := f111.w, nat := fun x _ => f111.wn x }
def f111.e (k : Nat) : Entry env := ⟨fun ps => f111.hd k (coer [[.rd 146], [.rd 146]] ps), [], []⟩
def f111.X (k : Nat) : Ctx env := { C := lookE [(159, f159.e k)], L := lookE [(4, fun S => f111.l4.hd k S.ts S.m S.n)], J := lookE [], keep := lookD [(4, [0, 1, 5])], keepX := lookD [(4, [4])], span := lookN [(4, 288)], eff := fun n => memN n [], prep := lookP [], np := 0 }
theorem f111.l4.nat {R : Type} (k : Nat) (rec_ : (List S146) → (List S146) → Int → Option (Bool ⊕ (Unit))) (g : (Bool ⊕ (Unit)) → Option R) (xs3 : List S146) (xs4 : List S146) (a5 : Int) : (f111.l4.step k rec_ some xs3 xs4 a5).bind g = f111.l4.step k (fun xs3 xs4 a5 => (rec_ xs3 xs4 a5).bind g) g xs3 xs4 a5 := by
  simp only [f111.l4.step, bind_ite, bind_sum, Option.bind_assoc, Option.bind_some, Option.bind_none]
theorem f111.l4.good (k : Nat) (xs3 : List S146) (xs4 : List S146) (a5 : Int) : GoodL (f111.X k) (nthC 0 (loopsOf (bodyOf Try.f111))) (f111.l4.st xs3 xs4 a5) { α := (Bool ⊕ (Unit)), o := f111.l4 k k xs3 xs4 a5, w := f111.l4.w } :=
  loop_good (ι := (List S146) × (List S146) × Int) (α := (Bool ⊕ (Unit))) (fun i => f111.l4.st i.1 i.2.1 i.2.2) (fun j i => f111.l4 k j i.1 i.2.1 i.2.2) f111.l4.w (fun rec_ ret i => f111.l4.step k (fun xs3 xs4 a5 => rec_ (xs3, xs4, a5)) ret i.1 i.2.1 i.2.2)
    (fun _ => rfl) (fun _ _ => rfl) (fun rec_ g i => f111.l4.nat k _ g i.1 i.2.1 i.2.2) (fun {R} i0 i rec_ K => by kernel_rfl) k (xs3, xs4, a5)
theorem f111.l4.all (k : Nat) (S : St env) : GoodL (f111.X k) (nthC 0 (loopsOf (bodyOf Try.f111))) S (f111.l4.hd k S.ts S.m S.n) := by
  obtain ⟨ts_, m_, n_⟩ := S
  show GoodL _ _ _ (f111.l4.hd k ts_ m_ n_)
  unfold f111.l4.hd
  refine gTs_ok (p := GoodL _ _ _) goodL_no fun _ h => ?_
  subst h
  refine gV_ok (p := GoodL _ _ _) goodL_no fun _ _ h => ?_
  subst h
  refine rImm_ok (p := GoodL _ _ _) goodL_no fun _ h => ?_
  subst h
  refine gV_ok (p := GoodL _ _ _) goodL_no fun _ _ h => ?_
  subst h
  refine rImm_ok (p := GoodL _ _ _) goodL_no fun _ h => ?_
  subst h
  refine gV_ok (p := GoodL _ _ _) goodL_no fun _ _ h => ?_
  subst h
  refine rV_ok (p := GoodL _ _ _) goodL_no fun _ h => ?_
  subst h
  refine vI_ok (p := GoodL _ _ _) goodL_no fun _ h => ?_
  subst h
  refine gE_ok (p := GoodL _ _ _) goodL_no fun h => ?_
  subst h
  refine gE_ok (p := GoodL _ _ _) goodL_no fun h => ?_
  subst h
  refine gN_ok (p := GoodL _ _ _) goodL_no fun h => ?_
  subst h
  exact f111.l4.good k _ _ _
theorem f111.nat {R : Type} (k : Nat) (g : Bool → Option R) (xs1 : List S146) (xs2 : List S146) : f111.step k g xs1 xs2 = (f111 k xs1 xs2).bind g := by
  simp only [f111, f111.step, bind_ite, bind_sum, Option.bind_assoc, Option.bind_some, Option.bind_none]
theorem f111.ev (k : Nat) (xs1 : List S146) (xs2 : List S146) : evF (f111.X k) (bodyOf Try.f111) Try.f111.ntmps Try.f111.results.toList [.v (.c (.sl 146 xs1)), .v (.c (.sl 146 xs2))] = f111.step k (fun x => f111.w x some) xs1 xs2 := by kernel_rfl
theorem f111.hok (k : Nat) : HOK (f111.X k) (bodyOf Try.f111) where
  l := allP_mem (by exact ⟨ls_of (h0 := fun S => f111.l4.hd k S.ts S.m S.n) (by kernel_rfl) (f111.l4.all k), trivial⟩)
  j := allP_mem (by exact trivial)
theorem f111.sound0 (k : Nat) : SoundC env Try.prog 111 (f111.hd k) := by
  intro ps_
  show GoodC _ _ _ ps_ (f111.hd k ps_)
  unfold f111.hd
  refine gC_ok (p := GoodC env Try.prog 111 _) goodC_no fun _ _ h => ?_
  subst h
  refine qC_ok (p := GoodC env Try.prog 111 _) goodC_no fun _ h => ?_
  subst h
  refine qSl_ok (p := GoodC env Try.prog 111 _) goodC_no fun _ h => ?_
  subst h
  refine gC_ok (p := GoodC env Try.prog 111 _) goodC_no fun _ _ h => ?_
  subst h
  refine qC_ok (p := GoodC env Try.prog 111 _) goodC_no fun _ h => ?_
  subst h
  refine qSl_ok (p := GoodC env Try.prog 111 _) goodC_no fun _ h => ?_
  subst h
  refine gE_ok (p := GoodC env Try.prog 111 _) goodC_no fun h => ?_
  subst h
  exact fun_good (fun_sound envOK (cs_sound _ (by exact ⟨⟨f159.sound k, f159.fnok⟩, trivial⟩)) (f111.hok k) Try.func111 rfl) ((f111.ev k _ _).trans (f111.nat k _ _ _))
theorem f111.sound (k : Nat) : SoundC env Try.prog 111 (f111.e k).F := soundC_coer (f111.sound0 k) [[.rd 146], [.rd 146]]
theorem f111.says (k : Nat) (xs1 : List S146) (xs2 : List S146) (t12 : Bool) (h_ : f111 k xs1 xs2 = some t12) : SoundAt env Try.prog 111 [.v (.c (.sl 146 xs1)), .v (.c (.sl 146 xs2))] ⟨.v (.c (.s (.bool t12))), [[], []]⟩ :=
  fun_sound envOK (cs_sound _ (by exact ⟨⟨f159.sound k, f159.fnok⟩, trivial⟩)) (f111.hok k) Try.func111 rfl _ _ (((f111.ev k xs1 xs2).trans (f111.nat k _ xs1 xs2)).trans (by rw [h_]; rfl))
theorem f111.fnok : FnOK Try.prog 111 := fn_ok Try.func111 (by kernel_rfl) rfl
def f187.step {R : Type} (k : Nat) (ret : Bool → Option R) (a1 : Int) (a2 : Int) (a3 : Int) (a4 : Int) (a5 : Int) (a6 : Int) : Option R :=
  if (decide (a1 ≠ a4)) = true then
    ret false
  else
    if (decide (a2 ≠ a5)) = true then
      ret false
    else
      if (decide (a3 ≠ a6)) = true then
        ret false
      else
        ret true
def f187 (k : Nat) (a1 : Int) (a2 : Int) (a3 : Int) (a4 : Int) (a5 : Int) (a6 : Int) : Option Bool := f187.step k some a1 a2 a3 a4 a5 a6
def f187.w {R : Type} : Bool → (Res env → Option R) → Option R := fun t7 K => K ⟨.v (.c (.s (.bool t7))), [[], []]⟩
theorem f187.wn (x : Bool) : ∃ res, ∀ {R : Type} (K : Res env → Option R), f187.w x K = K res := by
  exact ⟨_, fun _ => rfl⟩
def f187.hd (k : Nat) (ps_ : List (P2 env)) : Cl env :=
  gC Cl.no ps_ fun p_ ps_ => qG Cl.no p_ fun cs_ => gC Cl.no cs_ fun c_ cs_ => qS Cl.no c_ fun v_ => vI Cl.no .i64 v_ fun a1 => gC Cl.no cs_ fun c_ cs_ => qS Cl.no c_ fun v_ => vI Cl.no .i64 v_ fun a2 => gC Cl.no cs_ fun c_ cs_ => qS Cl.no c_ fun v_ => vI Cl.no .i64 v_ fun a3 => gE Cl.no cs_ <| gC Cl.no ps_ fun p_ ps_ => qG Cl.no p_ fun cs_ => gC Cl.no cs_ fun c_ cs_ => qS Cl.no c_ fun v_ => vI Cl.no .i64 v_ fun a4 => gC Cl.no cs_ fun c_ cs_ => qS Cl.no c_ fun v_ => vI Cl.no .i64 v_ fun a5 => gC Cl.no cs_ fun c_ cs_ => qS Cl.no c_ fun v_ => vI Cl.no .i64 v_ fun a6 => gE Cl.no cs_ <| gE Cl.no ps_ <| { α := Bool, o := f187 k a1 a2 a3 a4 a5 a6, w := f187.w, nat := fun x _ => f187.wn x }
def f187.e (k : Nat) : Entry env := ⟨f187.hd k, [], []⟩
def f187.X (k : Nat) : Ctx env := { C := lookE [], L := lookE [], J := lookE [], keep := lookD [], keepX := lookD [], span := lookN [], eff := fun n => memN n [], prep := lookP [], np := 0 }
theorem f187.nat {R : Type} (k : Nat) (g : Bool → Option R) (a1 : Int) (a2 : Int) (a3 : Int) (a4 : Int) (a5 : Int) (a6 : Int) : f187.step k g a1 a2 a3 a4 a5 a6 = (f187 k a1 a2 a3 a4 a5 a6).bind g := by
  simp only [f187, f187.step, bind_ite, bind_sum, Option.bind_assoc, Option.bind_some, Option.bind_none]
theorem f187.ev (k : Nat) (a1 : Int) (a2 : Int) (a3 : Int) (a4 : Int) (a5 : Int) (a6 : Int) : evF (f187.X k) (bodyOf Try.f187) Try.f187.ntmps Try.f187.results.toList [.g [.s (.int .i64 a1), .s (.int .i64 a2), .s (.int .i64 a3)], .g [.s (.int .i64 a4), .s (.int .i64 a5), .s (.int .i64 a6)]] = f187.step k (fun x => f187.w x some) a1 a2 a3 a4 a5 a6 := by kernel_rfl
theorem f187.hok (k : Nat) : HOK (f187.X k) (bodyOf Try.f187) where
  l := allP_mem (by exact trivial)
  j := allP_mem (by exact trivial)
theorem f187.sound (k : Nat) : SoundC env Try.prog 187 ((f187.e k).F) := by
  intro ps_
  show GoodC _ _ _ ps_ (f187.hd k ps_)
  unfold f187.hd
  refine gC_ok (p := GoodC env Try.prog 187 _) goodC_no fun _ _ h => ?_
  subst h
  refine qG_ok (p := GoodC env Try.prog 187 _) goodC_no fun _ h => ?_
  subst h
  refine gC_ok (p := GoodC env Try.prog 187 _) goodC_no fun _ _ h => ?_
  subst h
  refine qS_ok (p := GoodC env Try.prog 187 _) goodC_no fun _ h => ?_
  subst h
  refine vI_ok (p := GoodC env Try.prog 187 _) goodC_no fun _ h => ?_
  subst h
  refine gC_ok (p := GoodC env Try.prog 187 _) goodC_no fun _ _ h => ?_
  subst h
  refine qS_ok (p := GoodC env Try.prog 187 _) goodC_no fun _ h => ?_
  subst h
  refine vI_ok (p := GoodC env Try.prog 187 _) goodC_no fun _ h => ?_
  subst h
  refine gC_ok (p := GoodC env Try.prog 187 _) goodC_no fun _ _ h => ?_
  subst h
  refine qS_ok (p := GoodC env Try.prog 187 _) goodC_no fun _ h => ?_
  subst h
  refine vI_ok (p := GoodC env Try.prog 187 _) goodC_no fun _ h => ?_
  subst h
  refine gE_ok (p := GoodC env Try.prog 187 _) goodC_no fun h => ?_
  subst h
  refine gC_ok (p := GoodC env Try.prog 187 _) goodC_no fun _ _ h => ?_
  subst h
  refine qG_ok (p := GoodC env Try.prog 187 _) goodC_no fun _ h => ?_
  subst h
  refine gC_ok (p := GoodC env Try.prog 187 _) goodC_no fun _ _ h => ?_
  subst h
  refine qS_ok (p := GoodC env Try.prog 187 _) goodC_no fun _ h => ?_
  subst h
  refine vI_ok (p := GoodC env Try.prog 187 _) goodC_no fun _ h => ?_
  subst h
  refine gC_ok (p := GoodC env Try.prog 187 _) goodC_no fun _ _ h => ?_
  subst h
  refine qS_ok (p := GoodC env Try.prog 187 _) goodC_no fun _ h => ?_
  subst h
  refine vI_ok (p := GoodC env Try.prog 187 _) goodC_no fun _ h => ?_
  subst h
  refine gC_ok (p := GoodC env Try.prog 187 _) goodC_no fun _ _ h => ?_
  subst h
  refine qS_ok (p := GoodC env Try.prog 187 _) goodC_no fun _ h => ?_
  subst h
  refine vI_ok (p := GoodC env Try.prog 187 _) goodC_no fun _ h => ?_
  subst h
  refine gE_ok (p := GoodC env Try.prog 187 _) goodC_no fun h => ?_
  subst h
  refine gE_ok (p := GoodC env Try.prog 187 _) goodC_no fun h => ?_
  subst h
  exact fun_good (fun_sound envOK (cs_sound _ (by exact trivial)) (f187.hok k) Try.func187 rfl) ((f187.ev k _ _ _ _ _ _).trans (f187.nat k _ _ _ _ _ _ _))
theorem f187.says (k : Nat) (a1 : Int) (a2 : Int) (a3 : Int) (a4 : Int) (a5 : Int) (a6 : Int) (t8 : Bool) (h_ : f187 k a1 a2 a3 a4 a5 a6 = some t8) : SoundAt env Try.prog 187 [.g [.s (.int .i64 a1), .s (.int .i64 a2), .s (.int .i64 a3)], .g [.s (.int .i64 a4), .s (.int .i64 a5), .s (.int .i64 a6)]] ⟨.v (.c (.s (.bool t8))), [[], []]⟩ :=
  fun_sound envOK (cs_sound _ (by exact trivial)) (f187.hok k) Try.func187 rfl _ _ (((f187.ev k a1 a2 a3 a4 a5 a6).trans (f187.nat k _ a1 a2 a3 a4 a5 a6)).trans (by rw [h_]; rfl))
theorem f187.fnok : FnOK Try.prog 187 := fn_ok Try.func187 (by kernel_rfl) rfl
def f160.l4.step {R : Type} (k : Nat) (rec_ : (List S142) → (List S142) → Int → Option R) (ret : (Bool ⊕ (Unit)) → Option R) (xs3 : List S142) (xs4 : List S142) (a5 : Int) : Option R :=
  if (decide (a5 < (((List.length xs3) : Nat) : Int))) = true then
    if (0 : Int) ≤ a5 then
      if a5 < ((List.length xs3 : Nat) : Int) then
        if (0 : Int) ≤ a5 then
          if a5 < ((List.length xs4 : Nat) : Int) then
            (f187 k (List.getD xs3 (Int.toNat a5) (⟨(0 : Int), (0 : Int), (0 : Int)⟩ : S142)).f0 (List.getD xs3 (Int.toNat a5) (⟨(0 : Int), (0 : Int), (0 : Int)⟩ : S142)).f1 (List.getD xs3 (Int.toNat a5) (⟨(0 : Int), (0 : Int), (0 : Int)⟩ : S142)).f2 (List.getD xs4 (Int.toNat a5) (⟨(0 : Int), (0 : Int), (0 : Int)⟩ : S142)).f0 (List.getD xs4 (Int.toNat a5) (⟨(0 : Int), (0 : Int), (0 : Int)⟩ : S142)).f1 (List.getD xs4 (Int.toNat a5) (⟨(0 : Int), (0 : Int), (0 : Int)⟩ : S142)).f2).bind fun t6 => if (!t6) = true then
                ret (.inl false)
              else
                rec_ xs3 xs4 (IntKind.i64.wrap (a5 + (1 : Int)))
          else none
        else none
      else none
    else none
  else
    ret (.inr ())
def f160.l4 (k : Nat) : Nat → (List S142) → (List S142) → Int → Option (Bool ⊕ (Unit))
  | 0, _, _, _ => none
  | j + 1, xs3, xs4, a5 => f160.l4.step k (fun xs3 xs4 a5 => f160.l4 k j xs3 xs4 a5) some xs3 xs4 a5
def f160.l4.w {R : Type} : (Bool ⊕ (Unit)) → (Exit → St env → Option R) → Option R := fun x K => Sum.elim (fun t9 => K .ret ⟨fullT [4] 0 27 [.v (.c (.s (.bool t9)))], [], 402⟩) (fun t10 => K (.exit 0) ⟨fullT [] 0 27 [], [], 402⟩) x
def f160.l4.st (xs3 : List S142) (xs4 : List S142) (a5 : Int) : St env := ⟨fullT [0, 1, 5] 0 27 [.v (.c (.imm 142 xs3)), .v (.c (.imm 142 xs4)), .v (.c (.s (.int .i64 a5)))], [], 114⟩
def f160.l4.hd (k : Nat) (ts_ : List (AV env)) (mm_ : Mem env) (n_ : Nat) : LCl env :=
  gTs LCl.no [0, 1, 5] 27 ts_ fun l_ => gV LCl.no l_ fun a_ l_ => rImm LCl.no 142 a_ fun xs3 => gV LCl.no l_ fun a_ l_ => rImm LCl.no 142 a_ fun xs4 => gV LCl.no l_ fun a_ l_ => rV LCl.no a_ fun v_ => vI LCl.no .i64 v_ fun a5 => gE LCl.no l_ <| gE LCl.no mm_ <| gN LCl.no 114 n_ { α := Bool ⊕ (Unit), o := f160.l4 k k xs3 xs4 a5, w := f160.l4.w }
def f160.step {R : Type} (k : Nat) (ret : Bool → Option R) (xs1 : List S142) (xs2 : List S142) : Option R :=
  if (decide ((((List.length xs1) : Nat) : Int) ≠ (((List.length xs2) : Nat) : Int))) = true then
    ret false
  else
    (f160.l4 k k xs1 xs2 (0 : Int)).bind (Sum.elim (fun t7 => ret t7) (fun t8 => ret true))
def f160 (k : Nat) (xs1 : List S142) (xs2 : List S142) : Option Bool := f160.step k some xs1 xs2
def f160.w {R : Type} : Bool → (Res env → Option R) → Option R := fun t11 K => K ⟨.v (.c (.s (.bool t11))), [[], []]⟩
theorem f160.wn (x : Bool) : ∃ res, ∀ {R : Type} (K : Res env → Option R), f160.w x K = K res := by
  exact ⟨_, fun _ => rfl⟩
def f160.hd (k : Nat) (ps_ : List (P2 env)) : Cl env :=
  gC Cl.no ps_ fun p_ ps_ => qC Cl.no p_ fun c_ => qSl Cl.no 142 c_ fun xs1 => gC Cl.no ps_ fun p_ ps_ => qC Cl.no p_ fun c_ => qSl Cl.no 142 c_ fun xs2 => gE Cl.no ps_ <| { α := Bool, o := f160 k xs1 xs2, w := f160.w, nat := fun x _ => f160.wn x }
def f160.e (k : Nat) : Entry env := ⟨fun ps => f160.hd k (coer [[.rd 142], [.rd 142]] ps), [], []⟩
def f160.X (k : Nat) : Ctx env := { C := lookE [(187, f187.e k)], L := lookE [(4, fun S => f160.l4.hd k S.ts S.m S.n)], J := lookE [], keep := lookD [(4, [0, 1, 5])], keepX := lookD [(4, [4])], span := lookN [(4, 288)], eff := fun n => memN n [], prep := lookP [], np := 0 }
theorem f160.l4.nat {R : Type} (k : Nat) (rec_ : (List S142) → (List S142) → Int → Option (Bool ⊕ (Unit))) (g : (Bool ⊕ (Unit)) → Option R) (xs3 : List S142) (xs4 : List S142) (a5 : Int) : (f160.l4.step k rec_ some xs3 xs4 a5).bind g = f160.l4.step k (fun xs3 xs4 a5 => (rec_ xs3 xs4 a5).bind g) g xs3 xs4 a5 := by
  simp only [f160.l4.step, bind_ite, bind_sum, Option.bind_assoc, Option.bind_some, Option.bind_none]
theorem f160.l4.good (k : Nat) (xs3 : List S142) (xs4 : List S142) (a5 : Int) : GoodL (f160.X k) (nthC 0 (loopsOf (bodyOf Try.f160))) (f160.l4.st xs3 xs4 a5) { α := (Bool ⊕ (Unit)), o := f160.l4 k k xs3 xs4 a5, w := f160.l4.w } :=
  loop_good (ι := (List S142) × (List S142) × Int) (α := (Bool ⊕ (Unit))) (fun i => f160.l4.st i.1 i.2.1 i.2.2) (fun j i => f160.l4 k j i.1 i.2.1 i.2.2) f160.l4.w (fun rec_ ret i => f160.l4.step k (fun xs3 xs4 a5 => rec_ (xs3, xs4, a5)) ret i.1 i.2.1 i.2.2)
    (fun _ => rfl) (fun _ _ => rfl) (fun rec_ g i => f160.l4.nat k _ g i.1 i.2.1 i.2.2) (fun {R} i0 i rec_ K => by kernel_rfl) k (xs3, xs4, a5)
theorem f160.l4.all (k : Nat) (S : St env) : GoodL (f160.X k) (nthC 0 (loopsOf (bodyOf Try.f160))) S (f160.l4.hd k S.ts S.m S.n) := by
  obtain ⟨ts_, m_, n_⟩ := S
  show GoodL _ _ _ (f160.l4.hd k ts_ m_ n_)
  unfold f160.l4.hd
  refine gTs_ok (p := GoodL _ _ _) goodL_no fun _ h => ?_
  subst h
  refine gV_ok (p := GoodL _ _ _) goodL_no fun _ _ h => ?_
  subst h
  refine rImm_ok (p := GoodL _ _ _) goodL_no fun _ h => ?_
  subst h
  refine gV_ok (p := GoodL _ _ _) goodL_no fun _ _ h => ?_
  subst h
  refine rImm_ok (p := GoodL _ _ _) goodL_no fun _ h => ?_
  subst h
  refine gV_ok (p := GoodL _ _ _) goodL_no fun _ _ h => ?_
  subst h
  refine rV_ok (p := GoodL _ _ _) goodL_no fun _ h => ?_
  subst h
  refine vI_ok (p := GoodL _ _ _) goodL_no fun _ h => ?_
  subst h
  refine gE_ok (p := GoodL _ _ _) goodL_no fun h => ?_
  subst h
  refine gE_ok (p := GoodL _ _ _) goodL_no fun h => ?_
  subst h
  refine gN_ok (p := GoodL _ _ _) goodL_no fun h => ?_
  subst h
  exact f160.l4.good k _ _ _
theorem f160.nat {R : Type} (k : Nat) (g : Bool → Option R) (xs1 : List S142) (xs2 : List S142) : f160.step k g xs1 xs2 = (f160 k xs1 xs2).bind g := by
  simp only [f160, f160.step, bind_ite, bind_sum, Option.bind_assoc, Option.bind_some, Option.bind_none]
theorem f160.ev (k : Nat) (xs1 : List S142) (xs2 : List S142) : evF (f160.X k) (bodyOf Try.f160) Try.f160.ntmps Try.f160.results.toList [.v (.c (.sl 142 xs1)), .v (.c (.sl 142 xs2))] = f160.step k (fun x => f160.w x some) xs1 xs2 := by kernel_rfl
theorem f160.hok (k : Nat) : HOK (f160.X k) (bodyOf Try.f160) where
  l := allP_mem (by exact ⟨ls_of (h0 := fun S => f160.l4.hd k S.ts S.m S.n) (by kernel_rfl) (f160.l4.all k), trivial⟩)
  j := allP_mem (by exact trivial)
theorem f160.sound0 (k : Nat) : SoundC env Try.prog 160 (f160.hd k) := by
  intro ps_
  show GoodC _ _ _ ps_ (f160.hd k ps_)
  unfold f160.hd
  refine gC_ok (p := GoodC env Try.prog 160 _) goodC_no fun _ _ h => ?_
  subst h
  refine qC_ok (p := GoodC env Try.prog 160 _) goodC_no fun _ h => ?_
  subst h
  refine qSl_ok (p := GoodC env Try.prog 160 _) goodC_no fun _ h => ?_
  subst h
  refine gC_ok (p := GoodC env Try.prog 160 _) goodC_no fun _ _ h => ?_
  subst h
  refine qC_ok (p := GoodC env Try.prog 160 _) goodC_no fun _ h => ?_
  subst h
  refine qSl_ok (p := GoodC env Try.prog 160 _) goodC_no fun _ h => ?_
  subst h
  refine gE_ok (p := GoodC env Try.prog 160 _) goodC_no fun h => ?_
  subst h
  exact fun_good (fun_sound envOK (cs_sound _ (by exact ⟨⟨f187.sound k, f187.fnok⟩, trivial⟩)) (f160.hok k) Try.func160 rfl) ((f160.ev k _ _).trans (f160.nat k _ _ _))
theorem f160.sound (k : Nat) : SoundC env Try.prog 160 (f160.e k).F := soundC_coer (f160.sound0 k) [[.rd 142], [.rd 142]]
theorem f160.says (k : Nat) (xs1 : List S142) (xs2 : List S142) (t12 : Bool) (h_ : f160 k xs1 xs2 = some t12) : SoundAt env Try.prog 160 [.v (.c (.sl 142 xs1)), .v (.c (.sl 142 xs2))] ⟨.v (.c (.s (.bool t12))), [[], []]⟩ :=
  fun_sound envOK (cs_sound _ (by exact ⟨⟨f187.sound k, f187.fnok⟩, trivial⟩)) (f160.hok k) Try.func160 rfl _ _ (((f160.ev k xs1 xs2).trans (f160.nat k _ xs1 xs2)).trans (by rw [h_]; rfl))
theorem f160.fnok : FnOK Try.prog 160 := fn_ok Try.func160 (by kernel_rfl) rfl
def f112.l4.step {R : Type} (k : Nat) (rec_ : (List (List S142)) → (List (List S142)) → Int → Option R) (ret : (Bool ⊕ (Unit)) → Option R) (xs3 : List (List S142)) (xs4 : List (List S142)) (a5 : Int) : Option R :=
  if (decide (a5 < (((List.length xs3) : Nat) : Int))) = true then
    if (0 : Int) ≤ a5 then
      if a5 < ((List.length xs3 : Nat) : Int) then
        if (0 : Int) ≤ a5 then
          if a5 < ((List.length xs4 : Nat) : Int) then
            (f160 k (List.getD xs3 (Int.toNat a5) []) (List.getD xs4 (Int.toNat a5) [])).bind fun t6 => if (!t6) = true then
                ret (.inl false)
              else
                rec_ xs3 xs4 (IntKind.i64.wrap (a5 + (1 : Int)))
          else none
        else none
      else none
    else none
  else
    ret (.inr ())
def f112.l4 (k : Nat) : Nat → (List (List S142)) → (List (List S142)) → Int → Option (Bool ⊕ (Unit))
  | 0, _, _, _ => none
  | j + 1, xs3, xs4, a5 => f112.l4.step k (fun xs3 xs4 a5 => f112.l4 k j xs3 xs4 a5) some xs3 xs4 a5
def f112.l4.w {R : Type} : (Bool ⊕ (Unit)) → (Exit → St env → Option R) → Option R := fun x K => Sum.elim (fun t9 => K .ret ⟨fullT [4] 0 27 [.v (.c (.s (.bool t9)))], [], 402⟩) (fun t10 => K (.exit 0) ⟨fullT [] 0 27 [], [], 402⟩) x
def f112.l4.st (xs3 : List (List S142)) (xs4 : List (List S142)) (a5 : Int) : St env := ⟨fullT [0, 1, 5] 0 27 [.v (.c (.imm 140 xs3)), .v (.c (.imm 140 xs4)), .v (.c (.s (.int .i64 a5)))], [], 114⟩
def f112.l4.hd (k : Nat) (ts_ : List (AV env)) (mm_ : Mem env) (n_ : Nat) : LCl env :=
  gTs LCl.no [0, 1, 5] 27 ts_ fun l_ => gV LCl.no l_ fun a_ l_ => rImm LCl.no 140 a_ fun xs3 => gV LCl.no l_ fun a_ l_ => rImm LCl.no 140 a_ fun xs4 => gV LCl.no l_ fun a_ l_ => rV LCl.no a_ fun v_ => vI LCl.no .i64 v_ fun a5 => gE LCl.no l_ <| gE LCl.no mm_ <| gN LCl.no 114 n_ { α := Bool ⊕ (Unit), o := f112.l4 k k xs3 xs4 a5, w := f112.l4.w }
def f112.step {R : Type} (k : Nat) (ret : Bool → Option R) (xs1 : List (List S142)) (xs2 : List (List S142)) : Option R :=
  if (decide ((((List.length xs1) : Nat) : Int) ≠ (((List.length xs2) : Nat) : Int))) = true then
    ret false
  else
    (f112.l4 k k xs1 xs2 (0 : Int)).bind (Sum.elim (fun t7 => ret t7) (fun t8 => ret true))
def f112 (k : Nat) (xs1 : List (List S142)) (xs2 : List (List S142)) : Option Bool := f112.step k some xs1 xs2
def f112.w {R : Type} : Bool → (Res env → Option R) → Option R := fun t11 K => K ⟨.v (.c (.s (.bool t11))), [[], []]⟩
theorem f112.wn (x : Bool) : ∃ res, ∀ {R : Type} (K : Res env → Option R), f112.w x K = K res := by
  exact ⟨_, fun _ => rfl⟩
def f112.hd (k : Nat) (ps_ : List (P2 env)) : Cl env :=
  gC Cl.no ps_ fun p_ ps_ => qC Cl.no p_ fun c_ => qSl Cl.no 140 c_ fun xs1 => gC Cl.no ps_ fun p_ ps_ => qC Cl.no p_ fun c_ => qSl Cl.no 140 c_ fun xs2 => gE Cl.no ps_ <| { α := Bool, o := f112 k xs1 xs2, w := f112.w, nat := fun x _ => f112.wn x }
def f112.e (k : Nat) : Entry env := ⟨fun ps => f112.hd k (coer [[.rd 140], [.rd 140]] ps), [], []⟩
def f112.X (k : Nat) : Ctx env := { C := lookE [(160, f160.e k)], L := lookE [(4, fun S => f112.l4.hd k S.ts S.m S.n)], J := lookE [], keep := lookD [(4, [0, 1, 5])], keepX := lookD [(4, [4])], span := lookN [(4, 288)], eff := fun n => memN n [], prep := lookP [], np := 0 }
theorem f112.l4.nat {R : Type} (k : Nat) (rec_ : (List (List S142)) → (List (List S142)) → Int → Option (Bool ⊕ (Unit))) (g : (Bool ⊕ (Unit)) → Option R) (xs3 : List (List S142)) (xs4 : List (List S142)) (a5 : Int) : (f112.l4.step k rec_ some xs3 xs4 a5).bind g = f112.l4.step k (fun xs3 xs4 a5 => (rec_ xs3 xs4 a5).bind g) g xs3 xs4 a5 := by
  simp only [f112.l4.step, bind_ite, bind_sum, Option.bind_assoc, Option.bind_some, Option.bind_none]
theorem f112.l4.good (k : Nat) (xs3 : List (List S142)) (xs4 : List (List S142)) (a5 : Int) : GoodL (f112.X k) (nthC 0 (loopsOf (bodyOf Try.f112))) (f112.l4.st xs3 xs4 a5) { α := (Bool ⊕ (Unit)), o := f112.l4 k k xs3 xs4 a5, w := f112.l4.w } :=
  loop_good (ι := (List (List S142)) × (List (List S142)) × Int) (α := (Bool ⊕ (Unit))) (fun i => f112.l4.st i.1 i.2.1 i.2.2) (fun j i => f112.l4 k j i.1 i.2.1 i.2.2) f112.l4.w (fun rec_ ret i => f112.l4.step k (fun xs3 xs4 a5 => rec_ (xs3, xs4, a5)) ret i.1 i.2.1 i.2.2)
    (fun _ => rfl) (fun _ _ => rfl) (fun rec_ g i => f112.l4.nat k _ g i.1 i.2.1 i.2.2) (fun {R} i0 i rec_ K => by kernel_rfl) k (xs3, xs4, a5)
theorem f112.l4.all (k : Nat) (S : St env) : GoodL (f112.X k) (nthC 0 (loopsOf (bodyOf Try.f112))) S (f112.l4.hd k S.ts S.m S.n) := by
  obtain ⟨ts_, m_, n_⟩ := S
  show GoodL _ _ _ (f112.l4.hd k ts_ m_ n_)
  unfold f112.l4.hd
  refine gTs_ok (p := GoodL _ _ _) goodL_no fun _ h => ?_
  subst h
  refine gV_ok (p := GoodL _ _ _) goodL_no fun _ _ h => ?_
  subst h
  refine rImm_ok (p := GoodL _ _ _) goodL_no fun _ h => ?_
  subst h
  refine gV_ok (p := GoodL _ _ _) goodL_no fun _ _ h => ?_
  subst h
  refine rImm_ok (p := GoodL _ _ _) goodL_no fun _ h => ?_
  subst h
  refine gV_ok (p := GoodL _ _ _) goodL_no fun _ _ h => ?_
  subst h
  refine rV_ok (p := GoodL _ _ _) goodL_no fun _ h => ?_
  subst h
  refine vI_ok (p := GoodL _ _ _) goodL_no fun _ h => ?_
  subst h
  refine gE_ok (p := GoodL _ _ _) goodL_no fun h => ?_
  subst h
  refine gE_ok (p := GoodL _ _ _) goodL_no fun h => ?_
  subst h
  refine gN_ok (p := GoodL _ _ _) goodL_no fun h => ?_
  subst h
  exact f112.l4.good k _ _ _
theorem f112.nat {R : Type} (k : Nat) (g : Bool → Option R) (xs1 : List (List S142)) (xs2 : List (List S142)) : f112.step k g xs1 xs2 = (f112 k xs1 xs2).bind g := by
  simp only [f112, f112.step, bind_ite, bind_sum, Option.bind_assoc, Option.bind_some, Option.bind_none]
theorem f112.ev (k : Nat) (xs1 : List (List S142)) (xs2 : List (List S142)) : evF (f112.X k) (bodyOf Try.f112) Try.f112.ntmps Try.f112.results.toList [.v (.c (.sl 140 xs1)), .v (.c (.sl 140 xs2))] = f112.step k (fun x => f112.w x some) xs1 xs2 := by kernel_rfl
theorem f112.hok (k : Nat) : HOK (f112.X k) (bodyOf Try.f112) where
  l := allP_mem (by exact ⟨ls_of (h0 := fun S => f112.l4.hd k S.ts S.m S.n) (by kernel_rfl) (f112.l4.all k), trivial⟩)
  j := allP_mem (by exact trivial)
theorem f112.sound0 (k : Nat) : SoundC env Try.prog 112 (f112.hd k) := by
  intro ps_
  show GoodC _ _ _ ps_ (f112.hd k ps_)
  unfold f112.hd
  refine gC_ok (p := GoodC env Try.prog 112 _) goodC_no fun _ _ h => ?_
  subst h
  refine qC_ok (p := GoodC env Try.prog 112 _) goodC_no fun _ h => ?_
  subst h
  refine qSl_ok (p := GoodC env Try.prog 112 _) goodC_no fun _ h => ?_
  subst h
  refine gC_ok (p := GoodC env Try.prog 112 _) goodC_no fun _ _ h => ?_
  subst h
  refine qC_ok (p := GoodC env Try.prog 112 _) goodC_no fun _ h => ?_
  subst h
  refine qSl_ok (p := GoodC env Try.prog 112 _) goodC_no fun _ h => ?_
  subst h
  refine gE_ok (p := GoodC env Try.prog 112 _) goodC_no fun h => ?_
  subst h
  exact fun_good (fun_sound envOK (cs_sound _ (by exact ⟨⟨f160.sound k, f160.fnok⟩, trivial⟩)) (f112.hok k) Try.func112 rfl) ((f112.ev k _ _).trans (f112.nat k _ _ _))
theorem f112.sound (k : Nat) : SoundC env Try.prog 112 (f112.e k).F := soundC_coer (f112.sound0 k) [[.rd 140], [.rd 140]]
theorem f112.says (k : Nat) (xs1 : List (List S142)) (xs2 : List (List S142)) (t12 : Bool) (h_ : f112 k xs1 xs2 = some t12) : SoundAt env Try.prog 112 [.v (.c (.sl 140 xs1)), .v (.c (.sl 140 xs2))] ⟨.v (.c (.s (.bool t12))), [[], []]⟩ :=
  fun_sound envOK (cs_sound _ (by exact ⟨⟨f160.sound k, f160.fnok⟩, trivial⟩)) (f112.hok k) Try.func112 rfl _ _ (((f112.ev k xs1 xs2).trans (f112.nat k _ xs1 xs2)).trans (by rw [h_]; rfl))
theorem f112.fnok : FnOK Try.prog 112 := fn_ok Try.func112 (by kernel_rfl) rfl
def f45.step {R : Type} (k : Nat) (ret : Bool → Option R) (xs1 : List S146) (xs2 : List (List S142)) (a3 : Int) (xs4 : List S146) (xs5 : List (List S142)) (a6 : Int) : Option R :=
  (f111 k xs1 xs4).bind fun t7 => if (!t7) = true then
      ret false
    else
      (f112 k xs2 xs5).bind fun t8 => if (!t8) = true then
          ret false
        else
          if (decide (a3 ≠ a6)) = true then
            ret false
          else
            ret true
def f45 (k : Nat) (xs1 : List S146) (xs2 : List (List S142)) (a3 : Int) (xs4 : List S146) (xs5 : List (List S142)) (a6 : Int) : Option Bool := f45.step k some xs1 xs2 a3 xs4 xs5 a6
def f45.w {R : Type} : Bool → (Res env → Option R) → Option R := fun t9 K => K ⟨.v (.c (.s (.bool t9))), [[], []]⟩
theorem f45.wn (x : Bool) : ∃ res, ∀ {R : Type} (K : Res env → Option R), f45.w x K = K res := by
  exact ⟨_, fun _ => rfl⟩
def f45.hd (k : Nat) (ps_ : List (P2 env)) : Cl env :=
  gC Cl.no ps_ fun p_ ps_ => qG Cl.no p_ fun cs_ => gC Cl.no cs_ fun c_ cs_ => qSl Cl.no 146 c_ fun xs1 => gC Cl.no cs_ fun c_ cs_ => qSl Cl.no 140 c_ fun xs2 => gC Cl.no cs_ fun c_ cs_ => qS Cl.no c_ fun v_ => vI Cl.no .i64 v_ fun a3 => gE Cl.no cs_ <| gC Cl.no ps_ fun p_ ps_ => qG Cl.no p_ fun cs_ => gC Cl.no cs_ fun c_ cs_ => qSl Cl.no 146 c_ fun xs4 => gC Cl.no cs_ fun c_ cs_ => qSl Cl.no 140 c_ fun xs5 => gC Cl.no cs_ fun c_ cs_ => qS Cl.no c_ fun v_ => vI Cl.no .i64 v_ fun a6 => gE Cl.no cs_ <| gE Cl.no ps_ <| { α := Bool, o := f45 k xs1 xs2 a3 xs4 xs5 a6, w := f45.w, nat := fun x _ => f45.wn x }
def f45.e (k : Nat) : Entry env := ⟨fun ps => f45.hd k (coer [[.rd 146, .rd 140, .no], [.rd 146, .rd 140, .no]] ps), [], []⟩
def f45.X (k : Nat) : Ctx env := { C := lookE [(111, f111.e k), (112, f112.e k)], L := lookE [], J := lookE [], keep := lookD [], keepX := lookD [], span := lookN [], eff := fun n => memN n [], prep := lookP [], np := 0 }
theorem f45.nat {R : Type} (k : Nat) (g : Bool → Option R) (xs1 : List S146) (xs2 : List (List S142)) (a3 : Int) (xs4 : List S146) (xs5 : List (List S142)) (a6 : Int) : f45.step k g xs1 xs2 a3 xs4 xs5 a6 = (f45 k xs1 xs2 a3 xs4 xs5 a6).bind g := by
  simp only [f45, f45.step, bind_ite, bind_sum, Option.bind_assoc, Option.bind_some, Option.bind_none]
theorem f45.ev (k : Nat) (xs1 : List S146) (xs2 : List (List S142)) (a3 : Int) (xs4 : List S146) (xs5 : List (List S142)) (a6 : Int) : evF (f45.X k) (bodyOf Try.f45) Try.f45.ntmps Try.f45.results.toList [.g [.sl 146 xs1, .sl 140 xs2, .s (.int .i64 a3)], .g [.sl 146 xs4, .sl 140 xs5, .s (.int .i64 a6)]] = f45.step k (fun x => f45.w x some) xs1 xs2 a3 xs4 xs5 a6 := by kernel_rfl
theorem f45.hok (k : Nat) : HOK (f45.X k) (bodyOf Try.f45) where
  l := allP_mem (by exact trivial)
  j := allP_mem (by exact trivial)
theorem f45.sound0 (k : Nat) : SoundC env Try.prog 45 (f45.hd k) := by
  intro ps_
  show GoodC _ _ _ ps_ (f45.hd k ps_)
  unfold f45.hd
  refine gC_ok (p := GoodC env Try.prog 45 _) goodC_no fun _ _ h => ?_
  subst h
  refine qG_ok (p := GoodC env Try.prog 45 _) goodC_no fun _ h => ?_
  subst h
  refine gC_ok (p := GoodC env Try.prog 45 _) goodC_no fun _ _ h => ?_
  subst h
  refine qSl_ok (p := GoodC env Try.prog 45 _) goodC_no fun _ h => ?_
  subst h
  refine gC_ok (p := GoodC env Try.prog 45 _) goodC_no fun _ _ h => ?_
  subst h
  refine qSl_ok (p := GoodC env Try.prog 45 _) goodC_no fun _ h => ?_
  subst h
  refine gC_ok (p := GoodC env Try.prog 45 _) goodC_no fun _ _ h => ?_
  subst h
  refine qS_ok (p := GoodC env Try.prog 45 _) goodC_no fun _ h => ?_
  subst h
  refine vI_ok (p := GoodC env Try.prog 45 _) goodC_no fun _ h => ?_
  subst h
  refine gE_ok (p := GoodC env Try.prog 45 _) goodC_no fun h => ?_
  subst h
  refine gC_ok (p := GoodC env Try.prog 45 _) goodC_no fun _ _ h => ?_
  subst h
  refine qG_ok (p := GoodC env Try.prog 45 _) goodC_no fun _ h => ?_
  subst h
  refine gC_ok (p := GoodC env Try.prog 45 _) goodC_no fun _ _ h => ?_
  subst h
  refine qSl_ok (p := GoodC env Try.prog 45 _) goodC_no fun _ h => ?_
  subst h
  refine gC_ok (p := GoodC env Try.prog 45 _) goodC_no fun _ _ h => ?_
  subst h
  refine qSl_ok (p := GoodC env Try.prog 45 _) goodC_no fun _ h => ?_
  subst h
  refine gC_ok (p := GoodC env Try.prog 45 _) goodC_no fun _ _ h => ?_
  subst h
  refine qS_ok (p := GoodC env Try.prog 45 _) goodC_no fun _ h => ?_
  subst h
  refine vI_ok (p := GoodC env Try.prog 45 _) goodC_no fun _ h => ?_
  subst h
  refine gE_ok (p := GoodC env Try.prog 45 _) goodC_no fun h => ?_
  subst h
  refine gE_ok (p := GoodC env Try.prog 45 _) goodC_no fun h => ?_
  subst h
  exact fun_good (fun_sound envOK (cs_sound _ (by exact ⟨⟨f111.sound k, f111.fnok⟩, ⟨f112.sound k, f112.fnok⟩, trivial⟩)) (f45.hok k) Try.func45 rfl) ((f45.ev k _ _ _ _ _ _).trans (f45.nat k _ _ _ _ _ _ _))
theorem f45.sound (k : Nat) : SoundC env Try.prog 45 (f45.e k).F := soundC_coer (f45.sound0 k) [[.rd 146, .rd 140, .no], [.rd 146, .rd 140, .no]]
theorem f45.says (k : Nat) (xs1 : List S146) (xs2 : List (List S142)) (a3 : Int) (xs4 : List S146) (xs5 : List (List S142)) (a6 : Int) (t10 : Bool) (h_ : f45 k xs1 xs2 a3 xs4 xs5 a6 = some t10) : SoundAt env Try.prog 45 [.g [.sl 146 xs1, .sl 140 xs2, .s (.int .i64 a3)], .g [.sl 146 xs4, .sl 140 xs5, .s (.int .i64 a6)]] ⟨.v (.c (.s (.bool t10))), [[], []]⟩ :=
  fun_sound envOK (cs_sound _ (by exact ⟨⟨f111.sound k, f111.fnok⟩, ⟨f112.sound k, f112.fnok⟩, trivial⟩)) (f45.hok k) Try.func45 rfl _ _ (((f45.ev k xs1 xs2 a3 xs4 xs5 a6).trans (f45.nat k _ xs1 xs2 a3 xs4 xs5 a6)).trans (by rw [h_]; rfl))
theorem f45.fnok : FnOK Try.prog 45 := fn_ok Try.func45 (by kernel_rfl) rfl
def f131.l2.step {R : Type} (k : Nat) (rec_ : Int → Int → (List S146) → Option R) (ret : (Int × (List S146)) → Option R) (a3 : Int) (a4 : Int) (xs5 : List S146) : Option R :=
  if (decide (a4 < (((List.length xs5) : Nat) : Int))) = true then
    if (0 : Int) ≤ a4 then
      if a4 < ((List.length xs5 : Nat) : Int) then
        if (0 : Int) ≤ a4 then
          if a4 < ((List.length (set146 xs5 (Int.toNat a4) 0 [.s (.int .i64 a3)]) : Nat) : Int) then
            if (0 : Int) ≤ a4 then
              if a4 < ((List.length (set146 (set146 xs5 (Int.toNat a4) 0 [.s (.int .i64 a3)]) (Int.toNat a4) 1 [.s (.int .i64 (IntKind.i64.wrap (a3 + (1 : Int))))]) : Nat) : Int) then
                if (0 : Int) ≤ a4 then
                  if a4 < ((List.length (set146 (set146 (set146 xs5 (Int.toNat a4) 0 [.s (.int .i64 a3)]) (Int.toNat a4) 1 [.s (.int .i64 (IntKind.i64.wrap (a3 + (1 : Int))))]) (Int.toNat a4) 2 [.s (.int .i64 (IntKind.i64.wrap ((IntKind.i64.wrap (a3 + (1 : Int))) + (1 : Int))))]) : Nat) : Int) then
                    rec_ (IntKind.i64.wrap ((IntKind.i64.wrap ((IntKind.i64.wrap ((IntKind.i64.wrap (a3 + (1 : Int))) + (1 : Int))) + (1 : Int))) + (1 : Int))) (IntKind.i64.wrap (a4 + (1 : Int))) (set146 (set146 (set146 (set146 xs5 (Int.toNat a4) 0 [.s (.int .i64 a3)]) (Int.toNat a4) 1 [.s (.int .i64 (IntKind.i64.wrap (a3 + (1 : Int))))]) (Int.toNat a4) 2 [.s (.int .i64 (IntKind.i64.wrap ((IntKind.i64.wrap (a3 + (1 : Int))) + (1 : Int))))]) (Int.toNat a4) 3 [.s (.bool (decide ((Int.tmod (IntKind.i64.wrap ((IntKind.i64.wrap ((IntKind.i64.wrap (a3 + (1 : Int))) + (1 : Int))) + (1 : Int))) (3 : Int)) = (0 : Int))))])
                  else none
                else none
              else none
            else none
          else none
        else none
      else none
    else none
  else
    ret (a3, xs5)
def f131.l2 (k : Nat) : Nat → Int → Int → (List S146) → Option (Int × (List S146))
  | 0, _, _, _ => none
  | j + 1, a3, a4, xs5 => f131.l2.step k (fun a3 a4 xs5 => f131.l2 k j a3 a4 xs5) some a3 a4 xs5
def f131.l2.w {R : Type} : (Int × (List S146)) → (Exit → St env → Option R) → Option R := fun t7 K => K (.exit 0) ⟨fullT [0, 1] 0 43 [.v (.c (.row 2)), .v (.c (.s (.int .i64 t7.1)))], [(2, .row true 146 t7.2)], 882⟩
def f131.l2.st (a3 : Int) (a4 : Int) (xs5 : List S146) : St env := ⟨fullT [0, 1, 5] 0 43 [.v (.c (.row 2)), .v (.c (.s (.int .i64 a3))), .v (.c (.s (.int .i64 a4)))], [(2, .row true 146 xs5)], 162⟩
def f131.l2.hd (k : Nat) (ts_ : List (AV env)) (mm_ : Mem env) (n_ : Nat) : LCl env :=
  gTs LCl.no [0, 1, 5] 43 ts_ fun l_ => gV LCl.no l_ fun a_ l_ => rRow LCl.no 2 a_ <| gV LCl.no l_ fun a_ l_ => rV LCl.no a_ fun v_ => vI LCl.no .i64 v_ fun a3 => gV LCl.no l_ fun a_ l_ => rV LCl.no a_ fun v_ => vI LCl.no .i64 v_ fun a4 => gE LCl.no l_ <| mRow LCl.no 2 true 146 mm_ fun xs5 m_ => gE LCl.no m_ <| gN LCl.no 162 n_ { α := Int × (List S146), o := f131.l2 k k a3 a4 xs5, w := f131.l2.w }
def f131.step {R : Type} (k : Nat) (ret : (Int × (List S146)) → Option R) (xs1 : List S146) (a2 : Int) : Option R :=
  (f131.l2 k k a2 (0 : Int) xs1).bind fun t6 => ret (t6.1, t6.2)
def f131 (k : Nat) (xs1 : List S146) (a2 : Int) : Option (Int × (List S146)) := f131.step k some xs1 a2
def f131.w {R : Type} : (Int × (List S146)) → (Res env → Option R) → Option R := fun t8 K => K ⟨.v (.c (.s (.int .i64 t8.1))), [[.sl 146 t8.2], []]⟩
theorem f131.wn (x : (Int × (List S146))) : ∃ res, ∀ {R : Type} (K : Res env → Option R), f131.w x K = K res := by
  exact ⟨_, fun _ => rfl⟩
def f131.hd (k : Nat) (ps_ : List (P2 env)) : Cl env :=
  gC Cl.no ps_ fun p_ ps_ => qC Cl.no p_ fun c_ => qWr Cl.no 146 c_ fun xs1 => gC Cl.no ps_ fun p_ ps_ => qC Cl.no p_ fun c_ => qS Cl.no c_ fun v_ => vI Cl.no .i64 v_ fun a2 => gE Cl.no ps_ <| { α := Int × (List S146), o := f131 k xs1 a2, w := f131.w, nat := fun x _ => f131.wn x }
def f131.e (k : Nat) : Entry env := ⟨fun ps => f131.hd k (coer [[.wr 146], [.no]] ps), [(0, 0)], []⟩
def f131.X (k : Nat) : Ctx env := { C := lookE [], L := lookE [(2, fun S => f131.l2.hd k S.ts S.m S.n)], J := lookE [], keep := lookD [(2, [0, 1, 5])], keepX := lookD [(2, [0, 1])], span := lookN [(2, 720)], eff := fun n => memN n [], prep := lookP [], np := 130 }
theorem f131.l2.nat {R : Type} (k : Nat) (rec_ : Int → Int → (List S146) → Option (Int × (List S146))) (g : (Int × (List S146)) → Option R) (a3 : Int) (a4 : Int) (xs5 : List S146) : (f131.l2.step k rec_ some a3 a4 xs5).bind g = f131.l2.step k (fun a3 a4 xs5 => (rec_ a3 a4 xs5).bind g) g a3 a4 xs5 := by
  simp only [f131.l2.step, bind_ite, bind_sum, Option.bind_assoc, Option.bind_some, Option.bind_none]
theorem f131.l2.good (k : Nat) (a3 : Int) (a4 : Int) (xs5 : List S146) : GoodL (f131.X k) (nthC 0 (loopsOf (bodyOf Try.f131))) (f131.l2.st a3 a4 xs5) { α := (Int × (List S146)), o := f131.l2 k k a3 a4 xs5, w := f131.l2.w } :=
  loop_good (ι := Int × Int × (List S146)) (α := (Int × (List S146))) (fun i => f131.l2.st i.1 i.2.1 i.2.2) (fun j i => f131.l2 k j i.1 i.2.1 i.2.2) f131.l2.w (fun rec_ ret i => f131.l2.step k (fun a3 a4 xs5 => rec_ (a3, a4, xs5)) ret i.1 i.2.1 i.2.2)
    (fun _ => rfl) (fun _ _ => rfl) (fun rec_ g i => f131.l2.nat k _ g i.1 i.2.1 i.2.2) (fun {R} i0 i rec_ K => by kernel_rfl) k (a3, a4, xs5)
theorem f131.l2.all (k : Nat) (S : St env) : GoodL (f131.X k) (nthC 0 (loopsOf (bodyOf Try.f131))) S (f131.l2.hd k S.ts S.m S.n) := by
  obtain ⟨ts_, m_, n_⟩ := S
  show GoodL _ _ _ (f131.l2.hd k ts_ m_ n_)
  unfold f131.l2.hd
  refine gTs_ok (p := GoodL _ _ _) goodL_no fun _ h => ?_
  subst h
  refine gV_ok (p := GoodL _ _ _) goodL_no fun _ _ h => ?_
  subst h
  refine rRow_ok (p := GoodL _ _ _) goodL_no fun h => ?_
  subst h
  refine gV_ok (p := GoodL _ _ _) goodL_no fun _ _ h => ?_
  subst h
  refine rV_ok (p := GoodL _ _ _) goodL_no fun _ h => ?_
  subst h
  refine vI_ok (p := GoodL _ _ _) goodL_no fun _ h => ?_
  subst h
  refine gV_ok (p := GoodL _ _ _) goodL_no fun _ _ h => ?_
  subst h
  refine rV_ok (p := GoodL _ _ _) goodL_no fun _ h => ?_
  subst h
  refine vI_ok (p := GoodL _ _ _) goodL_no fun _ h => ?_
  subst h
  refine gE_ok (p := GoodL _ _ _) goodL_no fun h => ?_
  subst h
  refine mRow_ok (p := GoodL _ _ _) goodL_no fun _ _ h => ?_
  subst h
  refine gE_ok (p := GoodL _ _ _) goodL_no fun h => ?_
  subst h
  refine gN_ok (p := GoodL _ _ _) goodL_no fun h => ?_
  subst h
  exact f131.l2.good k _ _ _
theorem f131.nat {R : Type} (k : Nat) (g : (Int × (List S146)) → Option R) (xs1 : List S146) (a2 : Int) : f131.step k g xs1 a2 = (f131 k xs1 a2).bind g := by
  simp only [f131, f131.step, bind_ite, bind_sum, Option.bind_assoc, Option.bind_some, Option.bind_none]
theorem f131.ev (k : Nat) (xs1 : List S146) (a2 : Int) : evF (f131.X k) (bodyOf Try.f131) Try.f131.ntmps Try.f131.results.toList [.v (.c (.wr 146 xs1)), .v (.c (.s (.int .i64 a2)))] = f131.step k (fun x => f131.w x some) xs1 a2 := by kernel_rfl
theorem f131.hok (k : Nat) : HOK (f131.X k) (bodyOf Try.f131) where
  l := allP_mem (by exact ⟨ls_of (h0 := fun S => f131.l2.hd k S.ts S.m S.n) (by kernel_rfl) (f131.l2.all k), trivial⟩)
  j := allP_mem (by exact trivial)
theorem f131.sound0 (k : Nat) : SoundC env Try.prog 131 (f131.hd k) := by
  intro ps_
  show GoodC _ _ _ ps_ (f131.hd k ps_)
  unfold f131.hd
  refine gC_ok (p := GoodC env Try.prog 131 _) goodC_no fun _ _ h => ?_
  subst h
  refine qC_ok (p := GoodC env Try.prog 131 _) goodC_no fun _ h => ?_
  subst h
  refine qWr_ok (p := GoodC env Try.prog 131 _) goodC_no fun _ h => ?_
  subst h
  refine gC_ok (p := GoodC env Try.prog 131 _) goodC_no fun _ _ h => ?_
  subst h
  refine qC_ok (p := GoodC env Try.prog 131 _) goodC_no fun _ h => ?_
  subst h
  refine qS_ok (p := GoodC env Try.prog 131 _) goodC_no fun _ h => ?_
  subst h
  refine vI_ok (p := GoodC env Try.prog 131 _) goodC_no fun _ h => ?_
  subst h
  refine gE_ok (p := GoodC env Try.prog 131 _) goodC_no fun h => ?_
  subst h
  exact fun_good (fun_sound envOK (cs_sound _ (by exact trivial)) (f131.hok k) Try.func131 rfl) ((f131.ev k _ _).trans (f131.nat k _ _ _))
theorem f131.sound (k : Nat) : SoundC env Try.prog 131 (f131.e k).F := soundC_coer (f131.sound0 k) [[.wr 146], [.no]]
theorem f131.says (k : Nat) (xs1 : List S146) (a2 : Int) (t9 : Int × (List S146)) (h_ : f131 k xs1 a2 = some t9) : SoundAt env Try.prog 131 [.v (.c (.wr 146 xs1)), .v (.c (.s (.int .i64 a2)))] ⟨.v (.c (.s (.int .i64 t9.1))), [[.sl 146 t9.2], []]⟩ :=
  fun_sound envOK (cs_sound _ (by exact trivial)) (f131.hok k) Try.func131 rfl _ _ (((f131.ev k xs1 a2).trans (f131.nat k _ xs1 a2)).trans (by rw [h_]; rfl))
theorem f131.fnok : FnOK Try.prog 131 := fn_ok Try.func131 (by kernel_rfl) rfl
def f172.l2.step {R : Type} (k : Nat) (rec_ : Int → Int → (List S142) → Option R) (ret : (Int × (List S142)) → Option R) (a3 : Int) (a4 : Int) (xs5 : List S142) : Option R :=
  if (decide (a4 < (((List.length xs5) : Nat) : Int))) = true then
    if (0 : Int) ≤ a4 then
      if a4 < ((List.length xs5 : Nat) : Int) then
        if (0 : Int) ≤ a4 then
          if a4 < ((List.length (set142 xs5 (Int.toNat a4) 0 [.s (.int .i64 a3)]) : Nat) : Int) then
            if (0 : Int) ≤ a4 then
              if a4 < ((List.length (set142 (set142 xs5 (Int.toNat a4) 0 [.s (.int .i64 a3)]) (Int.toNat a4) 1 [.s (.int .i64 (IntKind.i64.wrap (a3 + (1 : Int))))]) : Nat) : Int) then
                rec_ (IntKind.i64.wrap ((IntKind.i64.wrap ((IntKind.i64.wrap (a3 + (1 : Int))) + (1 : Int))) + (1 : Int))) (IntKind.i64.wrap (a4 + (1 : Int))) (set142 (set142 (set142 xs5 (Int.toNat a4) 0 [.s (.int .i64 a3)]) (Int.toNat a4) 1 [.s (.int .i64 (IntKind.i64.wrap (a3 + (1 : Int))))]) (Int.toNat a4) 2 [.s (.int .i64 (IntKind.i64.wrap ((IntKind.i64.wrap (a3 + (1 : Int))) + (1 : Int))))])
              else none
            else none
          else none
        else none
      else none
    else none
  else
    ret (a3, xs5)
def f172.l2 (k : Nat) : Nat → Int → Int → (List S142) → Option (Int × (List S142))
  | 0, _, _, _ => none
  | j + 1, a3, a4, xs5 => f172.l2.step k (fun a3 a4 xs5 => f172.l2 k j a3 a4 xs5) some a3 a4 xs5
def f172.l2.w {R : Type} : (Int × (List S142)) → (Exit → St env → Option R) → Option R := fun t7 K => K (.exit 0) ⟨fullT [0, 1] 0 34 [.v (.c (.row 2)), .v (.c (.s (.int .i64 t7.1)))], [(2, .row true 142 t7.2)], 706⟩
def f172.l2.st (a3 : Int) (a4 : Int) (xs5 : List S142) : St env := ⟨fullT [0, 1, 5] 0 34 [.v (.c (.row 2)), .v (.c (.s (.int .i64 a3))), .v (.c (.s (.int .i64 a4)))], [(2, .row true 142 xs5)], 162⟩
def f172.l2.hd (k : Nat) (ts_ : List (AV env)) (mm_ : Mem env) (n_ : Nat) : LCl env :=
  gTs LCl.no [0, 1, 5] 34 ts_ fun l_ => gV LCl.no l_ fun a_ l_ => rRow LCl.no 2 a_ <| gV LCl.no l_ fun a_ l_ => rV LCl.no a_ fun v_ => vI LCl.no .i64 v_ fun a3 => gV LCl.no l_ fun a_ l_ => rV LCl.no a_ fun v_ => vI LCl.no .i64 v_ fun a4 => gE LCl.no l_ <| mRow LCl.no 2 true 142 mm_ fun xs5 m_ => gE LCl.no m_ <| gN LCl.no 162 n_ { α := Int × (List S142), o := f172.l2 k k a3 a4 xs5, w := f172.l2.w }
def f172.step {R : Type} (k : Nat) (ret : (Int × (List S142)) → Option R) (xs1 : List S142) (a2 : Int) : Option R :=
  (f172.l2 k k a2 (0 : Int) xs1).bind fun t6 => ret (t6.1, t6.2)
def f172 (k : Nat) (xs1 : List S142) (a2 : Int) : Option (Int × (List S142)) := f172.step k some xs1 a2
def f172.w {R : Type} : (Int × (List S142)) → (Res env → Option R) → Option R := fun t8 K => K ⟨.v (.c (.s (.int .i64 t8.1))), [[.sl 142 t8.2], []]⟩
theorem f172.wn (x : (Int × (List S142))) : ∃ res, ∀ {R : Type} (K : Res env → Option R), f172.w x K = K res := by
  exact ⟨_, fun _ => rfl⟩
def f172.hd (k : Nat) (ps_ : List (P2 env)) : Cl env :=
  gC Cl.no ps_ fun p_ ps_ => qC Cl.no p_ fun c_ => qWr Cl.no 142 c_ fun xs1 => gC Cl.no ps_ fun p_ ps_ => qC Cl.no p_ fun c_ => qS Cl.no c_ fun v_ => vI Cl.no .i64 v_ fun a2 => gE Cl.no ps_ <| { α := Int × (List S142), o := f172 k xs1 a2, w := f172.w, nat := fun x _ => f172.wn x }
def f172.e (k : Nat) : Entry env := ⟨fun ps => f172.hd k (coer [[.wr 142], [.no]] ps), [(0, 0)], []⟩
def f172.X (k : Nat) : Ctx env := { C := lookE [], L := lookE [(2, fun S => f172.l2.hd k S.ts S.m S.n)], J := lookE [], keep := lookD [(2, [0, 1, 5])], keepX := lookD [(2, [0, 1])], span := lookN [(2, 544)], eff := fun n => memN n [], prep := lookP [], np := 130 }
theorem f172.l2.nat {R : Type} (k : Nat) (rec_ : Int → Int → (List S142) → Option (Int × (List S142))) (g : (Int × (List S142)) → Option R) (a3 : Int) (a4 : Int) (xs5 : List S142) : (f172.l2.step k rec_ some a3 a4 xs5).bind g = f172.l2.step k (fun a3 a4 xs5 => (rec_ a3 a4 xs5).bind g) g a3 a4 xs5 := by
  simp only [f172.l2.step, bind_ite, bind_sum, Option.bind_assoc, Option.bind_some, Option.bind_none]
theorem f172.l2.good (k : Nat) (a3 : Int) (a4 : Int) (xs5 : List S142) : GoodL (f172.X k) (nthC 0 (loopsOf (bodyOf Try.f172))) (f172.l2.st a3 a4 xs5) { α := (Int × (List S142)), o := f172.l2 k k a3 a4 xs5, w := f172.l2.w } :=
  loop_good (ι := Int × Int × (List S142)) (α := (Int × (List S142))) (fun i => f172.l2.st i.1 i.2.1 i.2.2) (fun j i => f172.l2 k j i.1 i.2.1 i.2.2) f172.l2.w (fun rec_ ret i => f172.l2.step k (fun a3 a4 xs5 => rec_ (a3, a4, xs5)) ret i.1 i.2.1 i.2.2)
    (fun _ => rfl) (fun _ _ => rfl) (fun rec_ g i => f172.l2.nat k _ g i.1 i.2.1 i.2.2) (fun {R} i0 i rec_ K => by kernel_rfl) k (a3, a4, xs5)
theorem f172.l2.all (k : Nat) (S : St env) : GoodL (f172.X k) (nthC 0 (loopsOf (bodyOf Try.f172))) S (f172.l2.hd k S.ts S.m S.n) := by
  obtain ⟨ts_, m_, n_⟩ := S
  show GoodL _ _ _ (f172.l2.hd k ts_ m_ n_)
  unfold f172.l2.hd
  refine gTs_ok (p := GoodL _ _ _) goodL_no fun _ h => ?_
  subst h
  refine gV_ok (p := GoodL _ _ _) goodL_no fun _ _ h => ?_
  subst h
  refine rRow_ok (p := GoodL _ _ _) goodL_no fun h => ?_
  subst h
  refine gV_ok (p := GoodL _ _ _) goodL_no fun _ _ h => ?_
  subst h
  refine rV_ok (p := GoodL _ _ _) goodL_no fun _ h => ?_
  subst h
  refine vI_ok (p := GoodL _ _ _) goodL_no fun _ h => ?_
  subst h
  refine gV_ok (p := GoodL _ _ _) goodL_no fun _ _ h => ?_
  subst h
  refine rV_ok (p := GoodL _ _ _) goodL_no fun _ h => ?_
  subst h
  refine vI_ok (p := GoodL _ _ _) goodL_no fun _ h => ?_
  subst h
  refine gE_ok (p := GoodL _ _ _) goodL_no fun h => ?_
  subst h
  refine mRow_ok (p := GoodL _ _ _) goodL_no fun _ _ h => ?_
  subst h
  refine gE_ok (p := GoodL _ _ _) goodL_no fun h => ?_
  subst h
  refine gN_ok (p := GoodL _ _ _) goodL_no fun h => ?_
  subst h
  exact f172.l2.good k _ _ _
theorem f172.nat {R : Type} (k : Nat) (g : (Int × (List S142)) → Option R) (xs1 : List S142) (a2 : Int) : f172.step k g xs1 a2 = (f172 k xs1 a2).bind g := by
  simp only [f172, f172.step, bind_ite, bind_sum, Option.bind_assoc, Option.bind_some, Option.bind_none]
theorem f172.ev (k : Nat) (xs1 : List S142) (a2 : Int) : evF (f172.X k) (bodyOf Try.f172) Try.f172.ntmps Try.f172.results.toList [.v (.c (.wr 142 xs1)), .v (.c (.s (.int .i64 a2)))] = f172.step k (fun x => f172.w x some) xs1 a2 := by kernel_rfl
theorem f172.hok (k : Nat) : HOK (f172.X k) (bodyOf Try.f172) where
  l := allP_mem (by exact ⟨ls_of (h0 := fun S => f172.l2.hd k S.ts S.m S.n) (by kernel_rfl) (f172.l2.all k), trivial⟩)
  j := allP_mem (by exact trivial)
theorem f172.sound0 (k : Nat) : SoundC env Try.prog 172 (f172.hd k) := by
  intro ps_
  show GoodC _ _ _ ps_ (f172.hd k ps_)
  unfold f172.hd
  refine gC_ok (p := GoodC env Try.prog 172 _) goodC_no fun _ _ h => ?_
  subst h
  refine qC_ok (p := GoodC env Try.prog 172 _) goodC_no fun _ h => ?_
  subst h
  refine qWr_ok (p := GoodC env Try.prog 172 _) goodC_no fun _ h => ?_
  subst h
  refine gC_ok (p := GoodC env Try.prog 172 _) goodC_no fun _ _ h => ?_
  subst h
  refine qC_ok (p := GoodC env Try.prog 172 _) goodC_no fun _ h => ?_
  subst h
  refine qS_ok (p := GoodC env Try.prog 172 _) goodC_no fun _ h => ?_
  subst h
  refine vI_ok (p := GoodC env Try.prog 172 _) goodC_no fun _ h => ?_
  subst h
  refine gE_ok (p := GoodC env Try.prog 172 _) goodC_no fun h => ?_
  subst h
  exact fun_good (fun_sound envOK (cs_sound _ (by exact trivial)) (f172.hok k) Try.func172 rfl) ((f172.ev k _ _).trans (f172.nat k _ _ _))
theorem f172.sound (k : Nat) : SoundC env Try.prog 172 (f172.e k).F := soundC_coer (f172.sound0 k) [[.wr 142], [.no]]
theorem f172.says (k : Nat) (xs1 : List S142) (a2 : Int) (t9 : Int × (List S142)) (h_ : f172 k xs1 a2 = some t9) : SoundAt env Try.prog 172 [.v (.c (.wr 142 xs1)), .v (.c (.s (.int .i64 a2)))] ⟨.v (.c (.s (.int .i64 t9.1))), [[.sl 142 t9.2], []]⟩ :=
  fun_sound envOK (cs_sound _ (by exact trivial)) (f172.hok k) Try.func172 rfl _ _ (((f172.ev k xs1 a2).trans (f172.nat k _ xs1 a2)).trans (by rw [h_]; rfl))
theorem f172.fnok : FnOK Try.prog 172 := fn_ok Try.func172 (by kernel_rfl) rfl
def f132.l2.step {R : Type} (k : Nat) (rec_ : Int → Int → (List (List S142)) → Option R) (ret : (Int × (List (List S142))) → Option R) (a3 : Int) (a4 : Int) (xs5 : List (List S142)) : Option R :=
  if (decide (a4 < (((List.length xs5) : Nat) : Int))) = true then
    if (0 : Int) ≤ a4 then
      if a4 < ((List.length xs5 : Nat) : Int) then
        (f172 k (List.getD xs5 (Int.toNat a4) []) a3).bind fun t6 => rec_ t6.1 (IntKind.i64.wrap (a4 + (1 : Int))) (List.set xs5 (Int.toNat a4) t6.2)
      else none
    else none
  else
    ret (a3, xs5)
def f132.l2 (k : Nat) : Nat → Int → Int → (List (List S142)) → Option (Int × (List (List S142)))
  | 0, _, _, _ => none
  | j + 1, a3, a4, xs5 => f132.l2.step k (fun a3 a4 xs5 => f132.l2 k j a3 a4 xs5) some a3 a4 xs5
def f132.l2.w {R : Type} : (Int × (List (List S142))) → (Exit → St env → Option R) → Option R := fun t8 K => K (.exit 0) ⟨fullT [0, 1] 0 19 [.v (.c (.row 2)), .v (.c (.s (.int .i64 t8.1)))], [(2, .row true 140 t8.2)], 386⟩
def f132.l2.st (a3 : Int) (a4 : Int) (xs5 : List (List S142)) : St env := ⟨fullT [0, 1, 5] 0 19 [.v (.c (.row 2)), .v (.c (.s (.int .i64 a3))), .v (.c (.s (.int .i64 a4)))], [(2, .row true 140 xs5)], 162⟩
def f132.l2.hd (k : Nat) (ts_ : List (AV env)) (mm_ : Mem env) (n_ : Nat) : LCl env :=
  gTs LCl.no [0, 1, 5] 19 ts_ fun l_ => gV LCl.no l_ fun a_ l_ => rRow LCl.no 2 a_ <| gV LCl.no l_ fun a_ l_ => rV LCl.no a_ fun v_ => vI LCl.no .i64 v_ fun a3 => gV LCl.no l_ fun a_ l_ => rV LCl.no a_ fun v_ => vI LCl.no .i64 v_ fun a4 => gE LCl.no l_ <| mRow LCl.no 2 true 140 mm_ fun xs5 m_ => gE LCl.no m_ <| gN LCl.no 162 n_ { α := Int × (List (List S142)), o := f132.l2 k k a3 a4 xs5, w := f132.l2.w }
def f132.step {R : Type} (k : Nat) (ret : (Int × (List (List S142))) → Option R) (xs1 : List (List S142)) (a2 : Int) : Option R :=
  (f132.l2 k k a2 (0 : Int) xs1).bind fun t7 => ret (t7.1, t7.2)
def f132 (k : Nat) (xs1 : List (List S142)) (a2 : Int) : Option (Int × (List (List S142))) := f132.step k some xs1 a2
def f132.w {R : Type} : (Int × (List (List S142))) → (Res env → Option R) → Option R := fun t9 K => K ⟨.v (.c (.s (.int .i64 t9.1))), [[.sl 140 t9.2], []]⟩
theorem f132.wn (x : (Int × (List (List S142)))) : ∃ res, ∀ {R : Type} (K : Res env → Option R), f132.w x K = K res := by
  exact ⟨_, fun _ => rfl⟩
def f132.hd (k : Nat) (ps_ : List (P2 env)) : Cl env :=
  gC Cl.no ps_ fun p_ ps_ => qC Cl.no p_ fun c_ => qWr Cl.no 140 c_ fun xs1 => gC Cl.no ps_ fun p_ ps_ => qC Cl.no p_ fun c_ => qS Cl.no c_ fun v_ => vI Cl.no .i64 v_ fun a2 => gE Cl.no ps_ <| { α := Int × (List (List S142)), o := f132 k xs1 a2, w := f132.w, nat := fun x _ => f132.wn x }
def f132.e (k : Nat) : Entry env := ⟨fun ps => f132.hd k (coer [[.wr 140], [.no]] ps), [(0, 0)], []⟩
def f132.X (k : Nat) : Ctx env := { C := lookE [(172, f172.e k)], L := lookE [(2, fun S => f132.l2.hd k S.ts S.m S.n)], J := lookE [], keep := lookD [(2, [0, 1, 5])], keepX := lookD [(2, [0, 1])], span := lookN [(2, 224)], eff := fun n => memN n [], prep := lookP [], np := 130 }
theorem f132.l2.nat {R : Type} (k : Nat) (rec_ : Int → Int → (List (List S142)) → Option (Int × (List (List S142)))) (g : (Int × (List (List S142))) → Option R) (a3 : Int) (a4 : Int) (xs5 : List (List S142)) : (f132.l2.step k rec_ some a3 a4 xs5).bind g = f132.l2.step k (fun a3 a4 xs5 => (rec_ a3 a4 xs5).bind g) g a3 a4 xs5 := by
  simp only [f132.l2.step, bind_ite, bind_sum, Option.bind_assoc, Option.bind_some, Option.bind_none]
theorem f132.l2.good (k : Nat) (a3 : Int) (a4 : Int) (xs5 : List (List S142)) : GoodL (f132.X k) (nthC 0 (loopsOf (bodyOf Try.f132))) (f132.l2.st a3 a4 xs5) { α := (Int × (List (List S142))), o := f132.l2 k k a3 a4 xs5, w := f132.l2.w } :=
  loop_good (ι := Int × Int × (List (List S142))) (α := (Int × (List (List S142)))) (fun i => f132.l2.st i.1 i.2.1 i.2.2) (fun j i => f132.l2 k j i.1 i.2.1 i.2.2) f132.l2.w (fun rec_ ret i => f132.l2.step k (fun a3 a4 xs5 => rec_ (a3, a4, xs5)) ret i.1 i.2.1 i.2.2)
    (fun _ => rfl) (fun _ _ => rfl) (fun rec_ g i => f132.l2.nat k _ g i.1 i.2.1 i.2.2) (fun {R} i0 i rec_ K => by kernel_rfl) k (a3, a4, xs5)
theorem f132.l2.all (k : Nat) (S : St env) : GoodL (f132.X k) (nthC 0 (loopsOf (bodyOf Try.f132))) S (f132.l2.hd k S.ts S.m S.n) := by
  obtain ⟨ts_, m_, n_⟩ := S
  show GoodL _ _ _ (f132.l2.hd k ts_ m_ n_)
  unfold f132.l2.hd
  refine gTs_ok (p := GoodL _ _ _) goodL_no fun _ h => ?_
  subst h
  refine gV_ok (p := GoodL _ _ _) goodL_no fun _ _ h => ?_
  subst h
  refine rRow_ok (p := GoodL _ _ _) goodL_no fun h => ?_
  subst h
  refine gV_ok (p := GoodL _ _ _) goodL_no fun _ _ h => ?_
  subst h
  refine rV_ok (p := GoodL _ _ _) goodL_no fun _ h => ?_
  subst h
  refine vI_ok (p := GoodL _ _ _) goodL_no fun _ h => ?_
  subst h
  refine gV_ok (p := GoodL _ _ _) goodL_no fun _ _ h => ?_
  subst h
  refine rV_ok (p := GoodL _ _ _) goodL_no fun _ h => ?_
  subst h
  refine vI_ok (p := GoodL _ _ _) goodL_no fun _ h => ?_
  subst h
  refine gE_ok (p := GoodL _ _ _) goodL_no fun h => ?_
  subst h
  refine mRow_ok (p := GoodL _ _ _) goodL_no fun _ _ h => ?_
  subst h
  refine gE_ok (p := GoodL _ _ _) goodL_no fun h => ?_
  subst h
  refine gN_ok (p := GoodL _ _ _) goodL_no fun h => ?_
  subst h
  exact f132.l2.good k _ _ _
theorem f132.nat {R : Type} (k : Nat) (g : (Int × (List (List S142))) → Option R) (xs1 : List (List S142)) (a2 : Int) : f132.step k g xs1 a2 = (f132 k xs1 a2).bind g := by
  simp only [f132, f132.step, bind_ite, bind_sum, Option.bind_assoc, Option.bind_some, Option.bind_none]
theorem f132.ev (k : Nat) (xs1 : List (List S142)) (a2 : Int) : evF (f132.X k) (bodyOf Try.f132) Try.f132.ntmps Try.f132.results.toList [.v (.c (.wr 140 xs1)), .v (.c (.s (.int .i64 a2)))] = f132.step k (fun x => f132.w x some) xs1 a2 := by kernel_rfl
theorem f132.hok (k : Nat) : HOK (f132.X k) (bodyOf Try.f132) where
  l := allP_mem (by exact ⟨ls_of (h0 := fun S => f132.l2.hd k S.ts S.m S.n) (by kernel_rfl) (f132.l2.all k), trivial⟩)
  j := allP_mem (by exact trivial)
theorem f132.sound0 (k : Nat) : SoundC env Try.prog 132 (f132.hd k) := by
  intro ps_
  show GoodC _ _ _ ps_ (f132.hd k ps_)
  unfold f132.hd
  refine gC_ok (p := GoodC env Try.prog 132 _) goodC_no fun _ _ h => ?_
  subst h
  refine qC_ok (p := GoodC env Try.prog 132 _) goodC_no fun _ h => ?_
  subst h
  refine qWr_ok (p := GoodC env Try.prog 132 _) goodC_no fun _ h => ?_
  subst h
  refine gC_ok (p := GoodC env Try.prog 132 _) goodC_no fun _ _ h => ?_
  subst h
  refine qC_ok (p := GoodC env Try.prog 132 _) goodC_no fun _ h => ?_
  subst h
  refine qS_ok (p := GoodC env Try.prog 132 _) goodC_no fun _ h => ?_
  subst h
  refine vI_ok (p := GoodC env Try.prog 132 _) goodC_no fun _ h => ?_
  subst h
  refine gE_ok (p := GoodC env Try.prog 132 _) goodC_no fun h => ?_
  subst h
  exact fun_good (fun_sound envOK (cs_sound _ (by exact ⟨⟨f172.sound k, f172.fnok⟩, trivial⟩)) (f132.hok k) Try.func132 rfl) ((f132.ev k _ _).trans (f132.nat k _ _ _))
theorem f132.sound (k : Nat) : SoundC env Try.prog 132 (f132.e k).F := soundC_coer (f132.sound0 k) [[.wr 140], [.no]]
theorem f132.says (k : Nat) (xs1 : List (List S142)) (a2 : Int) (t10 : Int × (List (List S142))) (h_ : f132 k xs1 a2 = some t10) : SoundAt env Try.prog 132 [.v (.c (.wr 140 xs1)), .v (.c (.s (.int .i64 a2)))] ⟨.v (.c (.s (.int .i64 t10.1))), [[.sl 140 t10.2], []]⟩ :=
  fun_sound envOK (cs_sound _ (by exact ⟨⟨f172.sound k, f172.fnok⟩, trivial⟩)) (f132.hok k) Try.func132 rfl _ _ (((f132.ev k xs1 a2).trans (f132.nat k _ xs1 a2)).trans (by rw [h_]; rfl))
theorem f132.fnok : FnOK Try.prog 132 := fn_ok Try.func132 (by kernel_rfl) rfl
def f66.step {R : Type} (k : Nat) (ret : (Int × (List S146) × (List (List S142)) × Bool) → Option R) (xs1 : List S146) (xs2 : List (List S142)) (a3 : Int) (a4 : Int) : Option R :=
  (f131 k xs1 a4).bind fun t5 => (f132 k xs2 t5.1).bind fun t6 => ret (t6.1, t5.2, t6.2, false)
def f66 (k : Nat) (xs1 : List S146) (xs2 : List (List S142)) (a3 : Int) (a4 : Int) : Option (Int × (List S146) × (List (List S142)) × Bool) := f66.step k some xs1 xs2 a3 a4
def f66.w {R : Type} : (Int × (List S146) × (List (List S142)) × Bool) → (Res env → Option R) → Option R := fun t7 K => K ⟨.v (.c (.s (.int .i64 t7.1))), [[.sl 146 t7.2.1, .sl 140 t7.2.2.1, .s (.bool t7.2.2.2)], []]⟩
theorem f66.wn (x : (Int × (List S146) × (List (List S142)) × Bool)) : ∃ res, ∀ {R : Type} (K : Res env → Option R), f66.w x K = K res := by
  exact ⟨_, fun _ => rfl⟩
def f66.hd (k : Nat) (ps_ : List (P2 env)) : Cl env :=
  gC Cl.no ps_ fun p_ ps_ => qG Cl.no p_ fun cs_ => gC Cl.no cs_ fun c_ cs_ => qWr Cl.no 146 c_ fun xs1 => gC Cl.no cs_ fun c_ cs_ => qWr Cl.no 140 c_ fun xs2 => gC Cl.no cs_ fun c_ cs_ => qS Cl.no c_ fun v_ => vI Cl.no .i64 v_ fun a3 => gE Cl.no cs_ <| gC Cl.no ps_ fun p_ ps_ => qC Cl.no p_ fun c_ => qS Cl.no c_ fun v_ => vI Cl.no .i64 v_ fun a4 => gE Cl.no ps_ <| { α := Int × (List S146) × (List (List S142)) × Bool, o := f66 k xs1 xs2 a3 a4, w := f66.w, nat := fun x _ => f66.wn x }
def f66.e (k : Nat) : Entry env := ⟨fun ps => f66.hd k (coer [[.wr 146, .wr 140, .no], [.no]] ps), [(0, 0), (0, 1)], []⟩
def f66.X (k : Nat) : Ctx env := { C := lookE [(131, f131.e k), (132, f132.e k)], L := lookE [], J := lookE [], keep := lookD [], keepX := lookD [], span := lookN [], eff := fun n => memN n [], prep := lookP [], np := 130 }
theorem f66.nat {R : Type} (k : Nat) (g : (Int × (List S146) × (List (List S142)) × Bool) → Option R) (xs1 : List S146) (xs2 : List (List S142)) (a3 : Int) (a4 : Int) : f66.step k g xs1 xs2 a3 a4 = (f66 k xs1 xs2 a3 a4).bind g := by
  simp only [f66, f66.step, bind_ite, bind_sum, Option.bind_assoc, Option.bind_some, Option.bind_none]
theorem f66.ev (k : Nat) (xs1 : List S146) (xs2 : List (List S142)) (a3 : Int) (a4 : Int) : evF (f66.X k) (bodyOf Try.f66) Try.f66.ntmps Try.f66.results.toList [.g [.wr 146 xs1, .wr 140 xs2, .s (.int .i64 a3)], .v (.c (.s (.int .i64 a4)))] = f66.step k (fun x => f66.w x some) xs1 xs2 a3 a4 := by kernel_rfl
theorem f66.hok (k : Nat) : HOK (f66.X k) (bodyOf Try.f66) where
  l := allP_mem (by exact trivial)
  j := allP_mem (by exact trivial)
theorem f66.sound0 (k : Nat) : SoundC env Try.prog 66 (f66.hd k) := by
  intro ps_
  show GoodC _ _ _ ps_ (f66.hd k ps_)
  unfold f66.hd
  refine gC_ok (p := GoodC env Try.prog 66 _) goodC_no fun _ _ h => ?_
  subst h
  refine qG_ok (p := GoodC env Try.prog 66 _) goodC_no fun _ h => ?_
  subst h
  refine gC_ok (p := GoodC env Try.prog 66 _) goodC_no fun _ _ h => ?_
  subst h
  refine qWr_ok (p := GoodC env Try.prog 66 _) goodC_no fun _ h => ?_
  subst h
  refine gC_ok (p := GoodC env Try.prog 66 _) goodC_no fun _ _ h => ?_
  subst h
  refine qWr_ok (p := GoodC env Try.prog 66 _) goodC_no fun _ h => ?_
  subst h
  refine gC_ok (p := GoodC env Try.prog 66 _) goodC_no fun _ _ h => ?_
  subst h
  refine qS_ok (p := GoodC env Try.prog 66 _) goodC_no fun _ h => ?_
  subst h
  refine vI_ok (p := GoodC env Try.prog 66 _) goodC_no fun _ h => ?_
  subst h
  refine gE_ok (p := GoodC env Try.prog 66 _) goodC_no fun h => ?_
  subst h
  refine gC_ok (p := GoodC env Try.prog 66 _) goodC_no fun _ _ h => ?_
  subst h
  refine qC_ok (p := GoodC env Try.prog 66 _) goodC_no fun _ h => ?_
  subst h
  refine qS_ok (p := GoodC env Try.prog 66 _) goodC_no fun _ h => ?_
  subst h
  refine vI_ok (p := GoodC env Try.prog 66 _) goodC_no fun _ h => ?_
  subst h
  refine gE_ok (p := GoodC env Try.prog 66 _) goodC_no fun h => ?_
  subst h
  exact fun_good (fun_sound envOK (cs_sound _ (by exact ⟨⟨f131.sound k, f131.fnok⟩, ⟨f132.sound k, f132.fnok⟩, trivial⟩)) (f66.hok k) Try.func66 rfl) ((f66.ev k _ _ _ _).trans (f66.nat k _ _ _ _ _))
theorem f66.sound (k : Nat) : SoundC env Try.prog 66 (f66.e k).F := soundC_coer (f66.sound0 k) [[.wr 146, .wr 140, .no], [.no]]
theorem f66.says (k : Nat) (xs1 : List S146) (xs2 : List (List S142)) (a3 : Int) (a4 : Int) (t8 : Int × (List S146) × (List (List S142)) × Bool) (h_ : f66 k xs1 xs2 a3 a4 = some t8) : SoundAt env Try.prog 66 [.g [.wr 146 xs1, .wr 140 xs2, .s (.int .i64 a3)], .v (.c (.s (.int .i64 a4)))] ⟨.v (.c (.s (.int .i64 t8.1))), [[.sl 146 t8.2.1, .sl 140 t8.2.2.1, .s (.bool t8.2.2.2)], []]⟩ :=
  fun_sound envOK (cs_sound _ (by exact ⟨⟨f131.sound k, f131.fnok⟩, ⟨f132.sound k, f132.fnok⟩, trivial⟩)) (f66.hok k) Try.func66 rfl _ _ (((f66.ev k xs1 xs2 a3 a4).trans (f66.nat k _ xs1 xs2 a3 a4)).trans (by rw [h_]; rfl))
theorem f66.fnok : FnOK Try.prog 66 := fn_ok Try.func66 (by kernel_rfl) rfl
def f26.l2.step {R : Type} (k : Nat) (rec_ : Int → Int → (List Int) → Option R) (ret : (Int × (List Int)) → Option R) (a3 : Int) (a4 : Int) (xs5 : List Int) : Option R :=
  if (decide (a4 < (((List.length xs5) : Nat) : Int))) = true then
    if (0 : Int) ≤ a4 then
      if a4 < ((List.length xs5 : Nat) : Int) then
        rec_ (IntKind.i64.wrap (a3 + (1 : Int))) (IntKind.i64.wrap (a4 + (1 : Int))) (List.set xs5 (Int.toNat a4) a3)
      else none
    else none
  else
    ret (a3, xs5)
def f26.l2 (k : Nat) : Nat → Int → Int → (List Int) → Option (Int × (List Int))
  | 0, _, _, _ => none
  | j + 1, a3, a4, xs5 => f26.l2.step k (fun a3 a4 xs5 => f26.l2 k j a3 a4 xs5) some a3 a4 xs5
def f26.l2.w {R : Type} : (Int × (List Int)) → (Exit → St env → Option R) → Option R := fun t7 K => K (.exit 0) ⟨fullT [0, 1] 0 19 [.v (.c (.row 2)), .v (.c (.s (.int .i64 t7.1)))], [(2, .row true 3 t7.2)], 402⟩
def f26.l2.st (a3 : Int) (a4 : Int) (xs5 : List Int) : St env := ⟨fullT [0, 1, 5] 0 19 [.v (.c (.row 2)), .v (.c (.s (.int .i64 a3))), .v (.c (.s (.int .i64 a4)))], [(2, .row true 3 xs5)], 162⟩
def f26.l2.hd (k : Nat) (ts_ : List (AV env)) (mm_ : Mem env) (n_ : Nat) : LCl env :=
  gTs LCl.no [0, 1, 5] 19 ts_ fun l_ => gV LCl.no l_ fun a_ l_ => rRow LCl.no 2 a_ <| gV LCl.no l_ fun a_ l_ => rV LCl.no a_ fun v_ => vI LCl.no .i64 v_ fun a3 => gV LCl.no l_ fun a_ l_ => rV LCl.no a_ fun v_ => vI LCl.no .i64 v_ fun a4 => gE LCl.no l_ <| mRow LCl.no 2 true 3 mm_ fun xs5 m_ => gE LCl.no m_ <| gN LCl.no 162 n_ { α := Int × (List Int), o := f26.l2 k k a3 a4 xs5, w := f26.l2.w }
def f26.step {R : Type} (k : Nat) (ret : (Int × (List Int)) → Option R) (xs1 : List Int) (a2 : Int) : Option R :=
  (f26.l2 k k a2 (0 : Int) xs1).bind fun t6 => ret (t6.1, t6.2)
def f26 (k : Nat) (xs1 : List Int) (a2 : Int) : Option (Int × (List Int)) := f26.step k some xs1 a2
def f26.w {R : Type} : (Int × (List Int)) → (Res env → Option R) → Option R := fun t8 K => K ⟨.v (.c (.s (.int .i64 t8.1))), [[.sl 3 t8.2], []]⟩
theorem f26.wn (x : (Int × (List Int))) : ∃ res, ∀ {R : Type} (K : Res env → Option R), f26.w x K = K res := by
  exact ⟨_, fun _ => rfl⟩
def f26.hd (k : Nat) (ps_ : List (P2 env)) : Cl env :=
  gC Cl.no ps_ fun p_ ps_ => qC Cl.no p_ fun c_ => qWr Cl.no 3 c_ fun xs1 => gC Cl.no ps_ fun p_ ps_ => qC Cl.no p_ fun c_ => qS Cl.no c_ fun v_ => vI Cl.no .i64 v_ fun a2 => gE Cl.no ps_ <| { α := Int × (List Int), o := f26 k xs1 a2, w := f26.w, nat := fun x _ => f26.wn x }
def f26.e (k : Nat) : Entry env := ⟨fun ps => f26.hd k (coer [[.wr 3], [.no]] ps), [(0, 0)], []⟩
def f26.X (k : Nat) : Ctx env := { C := lookE [], L := lookE [(2, fun S => f26.l2.hd k S.ts S.m S.n)], J := lookE [], keep := lookD [(2, [0, 1, 5])], keepX := lookD [(2, [0, 1])], span := lookN [(2, 240)], eff := fun n => memN n [], prep := lookP [], np := 130 }
theorem f26.l2.nat {R : Type} (k : Nat) (rec_ : Int → Int → (List Int) → Option (Int × (List Int))) (g : (Int × (List Int)) → Option R) (a3 : Int) (a4 : Int) (xs5 : List Int) : (f26.l2.step k rec_ some a3 a4 xs5).bind g = f26.l2.step k (fun a3 a4 xs5 => (rec_ a3 a4 xs5).bind g) g a3 a4 xs5 := by
  simp only [f26.l2.step, bind_ite, bind_sum, Option.bind_assoc, Option.bind_some, Option.bind_none]
theorem f26.l2.good (k : Nat) (a3 : Int) (a4 : Int) (xs5 : List Int) : GoodL (f26.X k) (nthC 0 (loopsOf (bodyOf Try.f26))) (f26.l2.st a3 a4 xs5) { α := (Int × (List Int)), o := f26.l2 k k a3 a4 xs5, w := f26.l2.w } :=
  loop_good (ι := Int × Int × (List Int)) (α := (Int × (List Int))) (fun i => f26.l2.st i.1 i.2.1 i.2.2) (fun j i => f26.l2 k j i.1 i.2.1 i.2.2) f26.l2.w (fun rec_ ret i => f26.l2.step k (fun a3 a4 xs5 => rec_ (a3, a4, xs5)) ret i.1 i.2.1 i.2.2)
    (fun _ => rfl) (fun _ _ => rfl) (fun rec_ g i => f26.l2.nat k _ g i.1 i.2.1 i.2.2) (fun {R} i0 i rec_ K => by kernel_rfl) k (a3, a4, xs5)
theorem f26.l2.all (k : Nat) (S : St env) : GoodL (f26.X k) (nthC 0 (loopsOf (bodyOf Try.f26))) S (f26.l2.hd k S.ts S.m S.n) := by
  obtain ⟨ts_, m_, n_⟩ := S
  show GoodL _ _ _ (f26.l2.hd k ts_ m_ n_)
  unfold f26.l2.hd
  refine gTs_ok (p := GoodL _ _ _) goodL_no fun _ h => ?_
  subst h
  refine gV_ok (p := GoodL _ _ _) goodL_no fun _ _ h => ?_
  subst h
  refine rRow_ok (p := GoodL _ _ _) goodL_no fun h => ?_
  subst h
  refine gV_ok (p := GoodL _ _ _) goodL_no fun _ _ h => ?_
  subst h
  refine rV_ok (p := GoodL _ _ _) goodL_no fun _ h => ?_
  subst h
  refine vI_ok (p := GoodL _ _ _) goodL_no fun _ h => ?_
  subst h
  refine gV_ok (p := GoodL _ _ _) goodL_no fun _ _ h => ?_
  subst h
  refine rV_ok (p := GoodL _ _ _) goodL_no fun _ h => ?_
  subst h
  refine vI_ok (p := GoodL _ _ _) goodL_no fun _ h => ?_
  subst h
  refine gE_ok (p := GoodL _ _ _) goodL_no fun h => ?_
  subst h
  refine mRow_ok (p := GoodL _ _ _) goodL_no fun _ _ h => ?_
  subst h
  refine gE_ok (p := GoodL _ _ _) goodL_no fun h => ?_
  subst h
  refine gN_ok (p := GoodL _ _ _) goodL_no fun h => ?_
  subst h
  exact f26.l2.good k _ _ _
theorem f26.nat {R : Type} (k : Nat) (g : (Int × (List Int)) → Option R) (xs1 : List Int) (a2 : Int) : f26.step k g xs1 a2 = (f26 k xs1 a2).bind g := by
  simp only [f26, f26.step, bind_ite, bind_sum, Option.bind_assoc, Option.bind_some, Option.bind_none]
theorem f26.ev (k : Nat) (xs1 : List Int) (a2 : Int) : evF (f26.X k) (bodyOf Try.f26) Try.f26.ntmps Try.f26.results.toList [.v (.c (.wr 3 xs1)), .v (.c (.s (.int .i64 a2)))] = f26.step k (fun x => f26.w x some) xs1 a2 := by kernel_rfl
theorem f26.hok (k : Nat) : HOK (f26.X k) (bodyOf Try.f26) where
  l := allP_mem (by exact ⟨ls_of (h0 := fun S => f26.l2.hd k S.ts S.m S.n) (by kernel_rfl) (f26.l2.all k), trivial⟩)
  j := allP_mem (by exact trivial)
theorem f26.sound0 (k : Nat) : SoundC env Try.prog 26 (f26.hd k) := by
  intro ps_
  show GoodC _ _ _ ps_ (f26.hd k ps_)
  unfold f26.hd
  refine gC_ok (p := GoodC env Try.prog 26 _) goodC_no fun _ _ h => ?_
  subst h
  refine qC_ok (p := GoodC env Try.prog 26 _) goodC_no fun _ h => ?_
  subst h
  refine qWr_ok (p := GoodC env Try.prog 26 _) goodC_no fun _ h => ?_
  subst h
  refine gC_ok (p := GoodC env Try.prog 26 _) goodC_no fun _ _ h => ?_
  subst h
  refine qC_ok (p := GoodC env Try.prog 26 _) goodC_no fun _ h => ?_
  subst h
  refine qS_ok (p := GoodC env Try.prog 26 _) goodC_no fun _ h => ?_
  subst h
  refine vI_ok (p := GoodC env Try.prog 26 _) goodC_no fun _ h => ?_
  subst h
  refine gE_ok (p := GoodC env Try.prog 26 _) goodC_no fun h => ?_
  subst h
  exact fun_good (fun_sound envOK (cs_sound _ (by exact trivial)) (f26.hok k) Try.func26 rfl) ((f26.ev k _ _).trans (f26.nat k _ _ _))
theorem f26.sound (k : Nat) : SoundC env Try.prog 26 (f26.e k).F := soundC_coer (f26.sound0 k) [[.wr 3], [.no]]
theorem f26.says (k : Nat) (xs1 : List Int) (a2 : Int) (t9 : Int × (List Int)) (h_ : f26 k xs1 a2 = some t9) : SoundAt env Try.prog 26 [.v (.c (.wr 3 xs1)), .v (.c (.s (.int .i64 a2)))] ⟨.v (.c (.s (.int .i64 t9.1))), [[.sl 3 t9.2], []]⟩ :=
  fun_sound envOK (cs_sound _ (by exact trivial)) (f26.hok k) Try.func26 rfl _ _ (((f26.ev k xs1 a2).trans (f26.nat k _ xs1 a2)).trans (by rw [h_]; rfl))
theorem f26.fnok : FnOK Try.prog 26 := fn_ok Try.func26 (by kernel_rfl) rfl
def f74.l2.step {R : Type} (k : Nat) (rec_ : Int → Int → (List (List Int)) → Option R) (ret : (Int × (List (List Int))) → Option R) (a3 : Int) (a4 : Int) (xs5 : List (List Int)) : Option R :=
  if (decide (a4 < (((List.length xs5) : Nat) : Int))) = true then
    if (0 : Int) ≤ a4 then
      if a4 < ((List.length xs5 : Nat) : Int) then
        (f26 k (List.getD xs5 (Int.toNat a4) []) a3).bind fun t6 => rec_ t6.1 (IntKind.i64.wrap (a4 + (1 : Int))) (List.set xs5 (Int.toNat a4) t6.2)
      else none
    else none
  else
    ret (a3, xs5)
def f74.l2 (k : Nat) : Nat → Int → Int → (List (List Int)) → Option (Int × (List (List Int)))
  | 0, _, _, _ => none
  | j + 1, a3, a4, xs5 => f74.l2.step k (fun a3 a4 xs5 => f74.l2 k j a3 a4 xs5) some a3 a4 xs5
def f74.l2.w {R : Type} : (Int × (List (List Int))) → (Exit → St env → Option R) → Option R := fun t8 K => K (.exit 0) ⟨fullT [0, 1] 0 19 [.v (.c (.row 2)), .v (.c (.s (.int .i64 t8.1)))], [(2, .row true 33 t8.2)], 386⟩
def f74.l2.st (a3 : Int) (a4 : Int) (xs5 : List (List Int)) : St env := ⟨fullT [0, 1, 5] 0 19 [.v (.c (.row 2)), .v (.c (.s (.int .i64 a3))), .v (.c (.s (.int .i64 a4)))], [(2, .row true 33 xs5)], 162⟩
def f74.l2.hd (k : Nat) (ts_ : List (AV env)) (mm_ : Mem env) (n_ : Nat) : LCl env :=
  gTs LCl.no [0, 1, 5] 19 ts_ fun l_ => gV LCl.no l_ fun a_ l_ => rRow LCl.no 2 a_ <| gV LCl.no l_ fun a_ l_ => rV LCl.no a_ fun v_ => vI LCl.no .i64 v_ fun a3 => gV LCl.no l_ fun a_ l_ => rV LCl.no a_ fun v_ => vI LCl.no .i64 v_ fun a4 => gE LCl.no l_ <| mRow LCl.no 2 true 33 mm_ fun xs5 m_ => gE LCl.no m_ <| gN LCl.no 162 n_ { α := Int × (List (List Int)), o := f74.l2 k k a3 a4 xs5, w := f74.l2.w }
def f74.step {R : Type} (k : Nat) (ret : (Int × (List (List Int))) → Option R) (xs1 : List (List Int)) (a2 : Int) : Option R :=
  (f74.l2 k k a2 (0 : Int) xs1).bind fun t7 => ret (t7.1, t7.2)
def f74 (k : Nat) (xs1 : List (List Int)) (a2 : Int) : Option (Int × (List (List Int))) := f74.step k some xs1 a2
def f74.w {R : Type} : (Int × (List (List Int))) → (Res env → Option R) → Option R := fun t9 K => K ⟨.v (.c (.s (.int .i64 t9.1))), [[.sl 33 t9.2], []]⟩
theorem f74.wn (x : (Int × (List (List Int)))) : ∃ res, ∀ {R : Type} (K : Res env → Option R), f74.w x K = K res := by
  exact ⟨_, fun _ => rfl⟩
def f74.hd (k : Nat) (ps_ : List (P2 env)) : Cl env :=
  gC Cl.no ps_ fun p_ ps_ => qC Cl.no p_ fun c_ => qWr Cl.no 33 c_ fun xs1 => gC Cl.no ps_ fun p_ ps_ => qC Cl.no p_ fun c_ => qS Cl.no c_ fun v_ => vI Cl.no .i64 v_ fun a2 => gE Cl.no ps_ <| { α := Int × (List (List Int)), o := f74 k xs1 a2, w := f74.w, nat := fun x _ => f74.wn x }
def f74.e (k : Nat) : Entry env := ⟨fun ps => f74.hd k (coer [[.wr 33], [.no]] ps), [(0, 0)], []⟩
def f74.X (k : Nat) : Ctx env := { C := lookE [(26, f26.e k)], L := lookE [(2, fun S => f74.l2.hd k S.ts S.m S.n)], J := lookE [], keep := lookD [(2, [0, 1, 5])], keepX := lookD [(2, [0, 1])], span := lookN [(2, 224)], eff := fun n => memN n [], prep := lookP [], np := 130 }
theorem f74.l2.nat {R : Type} (k : Nat) (rec_ : Int → Int → (List (List Int)) → Option (Int × (List (List Int)))) (g : (Int × (List (List Int))) → Option R) (a3 : Int) (a4 : Int) (xs5 : List (List Int)) : (f74.l2.step k rec_ some a3 a4 xs5).bind g = f74.l2.step k (fun a3 a4 xs5 => (rec_ a3 a4 xs5).bind g) g a3 a4 xs5 := by
  simp only [f74.l2.step, bind_ite, bind_sum, Option.bind_assoc, Option.bind_some, Option.bind_none]
theorem f74.l2.good (k : Nat) (a3 : Int) (a4 : Int) (xs5 : List (List Int)) : GoodL (f74.X k) (nthC 0 (loopsOf (bodyOf Try.f74))) (f74.l2.st a3 a4 xs5) { α := (Int × (List (List Int))), o := f74.l2 k k a3 a4 xs5, w := f74.l2.w } :=
  loop_good (ι := Int × Int × (List (List Int))) (α := (Int × (List (List Int)))) (fun i => f74.l2.st i.1 i.2.1 i.2.2) (fun j i => f74.l2 k j i.1 i.2.1 i.2.2) f74.l2.w (fun rec_ ret i => f74.l2.step k (fun a3 a4 xs5 => rec_ (a3, a4, xs5)) ret i.1 i.2.1 i.2.2)
    (fun _ => rfl) (fun _ _ => rfl) (fun rec_ g i => f74.l2.nat k _ g i.1 i.2.1 i.2.2) (fun {R} i0 i rec_ K => by kernel_rfl) k (a3, a4, xs5)
theorem f74.l2.all (k : Nat) (S : St env) : GoodL (f74.X k) (nthC 0 (loopsOf (bodyOf Try.f74))) S (f74.l2.hd k S.ts S.m S.n) := by
  obtain ⟨ts_, m_, n_⟩ := S
  show GoodL _ _ _ (f74.l2.hd k ts_ m_ n_)
  unfold f74.l2.hd
  refine gTs_ok (p := GoodL _ _ _) goodL_no fun _ h => ?_
  subst h
  refine gV_ok (p := GoodL _ _ _) goodL_no fun _ _ h => ?_
  subst h
  refine rRow_ok (p := GoodL _ _ _) goodL_no fun h => ?_
  subst h
  refine gV_ok (p := GoodL _ _ _) goodL_no fun _ _ h => ?_
  subst h
  refine rV_ok (p := GoodL _ _ _) goodL_no fun _ h => ?_
  subst h
  refine vI_ok (p := GoodL _ _ _) goodL_no fun _ h => ?_
  subst h
  refine gV_ok (p := GoodL _ _ _) goodL_no fun _ _ h => ?_
  subst h
  refine rV_ok (p := GoodL _ _ _) goodL_no fun _ h => ?_
  subst h
  refine vI_ok (p := GoodL _ _ _) goodL_no fun _ h => ?_
  subst h
  refine gE_ok (p := GoodL _ _ _) goodL_no fun h => ?_
  subst h
  refine mRow_ok (p := GoodL _ _ _) goodL_no fun _ _ h => ?_
  subst h
  refine gE_ok (p := GoodL _ _ _) goodL_no fun h => ?_
  subst h
  refine gN_ok (p := GoodL _ _ _) goodL_no fun h => ?_
  subst h
  exact f74.l2.good k _ _ _
theorem f74.nat {R : Type} (k : Nat) (g : (Int × (List (List Int))) → Option R) (xs1 : List (List Int)) (a2 : Int) : f74.step k g xs1 a2 = (f74 k xs1 a2).bind g := by
  simp only [f74, f74.step, bind_ite, bind_sum, Option.bind_assoc, Option.bind_some, Option.bind_none]
theorem f74.ev (k : Nat) (xs1 : List (List Int)) (a2 : Int) : evF (f74.X k) (bodyOf Try.f74) Try.f74.ntmps Try.f74.results.toList [.v (.c (.wr 33 xs1)), .v (.c (.s (.int .i64 a2)))] = f74.step k (fun x => f74.w x some) xs1 a2 := by kernel_rfl
theorem f74.hok (k : Nat) : HOK (f74.X k) (bodyOf Try.f74) where
  l := allP_mem (by exact ⟨ls_of (h0 := fun S => f74.l2.hd k S.ts S.m S.n) (by kernel_rfl) (f74.l2.all k), trivial⟩)
  j := allP_mem (by exact trivial)
theorem f74.sound0 (k : Nat) : SoundC env Try.prog 74 (f74.hd k) := by
  intro ps_
  show GoodC _ _ _ ps_ (f74.hd k ps_)
  unfold f74.hd
  refine gC_ok (p := GoodC env Try.prog 74 _) goodC_no fun _ _ h => ?_
  subst h
  refine qC_ok (p := GoodC env Try.prog 74 _) goodC_no fun _ h => ?_
  subst h
  refine qWr_ok (p := GoodC env Try.prog 74 _) goodC_no fun _ h => ?_
  subst h
  refine gC_ok (p := GoodC env Try.prog 74 _) goodC_no fun _ _ h => ?_
  subst h
  refine qC_ok (p := GoodC env Try.prog 74 _) goodC_no fun _ h => ?_
  subst h
  refine qS_ok (p := GoodC env Try.prog 74 _) goodC_no fun _ h => ?_
  subst h
  refine vI_ok (p := GoodC env Try.prog 74 _) goodC_no fun _ h => ?_
  subst h
  refine gE_ok (p := GoodC env Try.prog 74 _) goodC_no fun h => ?_
  subst h
  exact fun_good (fun_sound envOK (cs_sound _ (by exact ⟨⟨f26.sound k, f26.fnok⟩, trivial⟩)) (f74.hok k) Try.func74 rfl) ((f74.ev k _ _).trans (f74.nat k _ _ _))
theorem f74.sound (k : Nat) : SoundC env Try.prog 74 (f74.e k).F := soundC_coer (f74.sound0 k) [[.wr 33], [.no]]
theorem f74.says (k : Nat) (xs1 : List (List Int)) (a2 : Int) (t10 : Int × (List (List Int))) (h_ : f74 k xs1 a2 = some t10) : SoundAt env Try.prog 74 [.v (.c (.wr 33 xs1)), .v (.c (.s (.int .i64 a2)))] ⟨.v (.c (.s (.int .i64 t10.1))), [[.sl 33 t10.2], []]⟩ :=
  fun_sound envOK (cs_sound _ (by exact ⟨⟨f26.sound k, f26.fnok⟩, trivial⟩)) (f74.hok k) Try.func74 rfl _ _ (((f74.ev k xs1 a2).trans (f74.nat k _ xs1 a2)).trans (by rw [h_]; rfl))
theorem f74.fnok : FnOK Try.prog 74 := fn_ok Try.func74 (by kernel_rfl) rfl
def f67.l2.step {R : Type} (k : Nat) (rec_ : (List Int) → Int → Int → Option R) (ret : ((Int × Int) ⊕ (Int)) → Option R) (xs3 : List Int) (a4 : Int) (a5 : Int) : Option R :=
  if (decide (a5 < (((List.length xs3) : Nat) : Int))) = true then
    if (0 : Int) ≤ a5 then
      if a5 < ((List.length xs3 : Nat) : Int) then
        if (decide ((List.getD xs3 (Int.toNat a5) (0 : Int)) ≠ a4)) = true then
          ret (.inl (a4, (-1 : Int)))
        else
          rec_ xs3 (IntKind.i64.wrap (a4 + (1 : Int))) (IntKind.i64.wrap (a5 + (1 : Int)))
      else none
    else none
  else
    ret (.inr a4)
def f67.l2 (k : Nat) : Nat → (List Int) → Int → Int → Option ((Int × Int) ⊕ (Int))
  | 0, _, _, _ => none
  | j + 1, xs3, a4, a5 => f67.l2.step k (fun xs3 a4 a5 => f67.l2 k j xs3 a4 a5) some xs3 a4 a5
def f67.l2.w {R : Type} : ((Int × Int) ⊕ (Int)) → (Exit → St env → Option R) → Option R := fun x K => Sum.elim (fun t8 => K .ret ⟨fullT [1, 4] 0 21 [.v (.c (.s (.int .i64 t8.1))), .v (.c (.s (.int .i64 t8.2)))], [], 306⟩) (fun t9 => K (.exit 0) ⟨fullT [1] 0 21 [.v (.c (.s (.int .i64 t9)))], [], 306⟩) x
def f67.l2.st (xs3 : List Int) (a4 : Int) (a5 : Int) : St env := ⟨fullT [0, 1, 5] 0 21 [.v (.c (.imm 3 xs3)), .v (.c (.s (.int .i64 a4))), .v (.c (.s (.int .i64 a5)))], [], 34⟩
def f67.l2.hd (k : Nat) (ts_ : List (AV env)) (mm_ : Mem env) (n_ : Nat) : LCl env :=
  gTs LCl.no [0, 1, 5] 21 ts_ fun l_ => gV LCl.no l_ fun a_ l_ => rImm LCl.no 3 a_ fun xs3 => gV LCl.no l_ fun a_ l_ => rV LCl.no a_ fun v_ => vI LCl.no .i64 v_ fun a4 => gV LCl.no l_ fun a_ l_ => rV LCl.no a_ fun v_ => vI LCl.no .i64 v_ fun a5 => gE LCl.no l_ <| gE LCl.no mm_ <| gN LCl.no 34 n_ { α := (Int × Int) ⊕ (Int), o := f67.l2 k k xs3 a4 a5, w := f67.l2.w }
def f67.step {R : Type} (k : Nat) (ret : Int → Option R) (xs1 : List Int) (a2 : Int) : Option R :=
  (f67.l2 k k xs1 a2 (0 : Int)).bind (Sum.elim (fun t6 => ret t6.2) (fun t7 => ret t7))
def f67 (k : Nat) (xs1 : List Int) (a2 : Int) : Option Int := f67.step k some xs1 a2
def f67.w {R : Type} : Int → (Res env → Option R) → Option R := fun t10 K => K ⟨.v (.c (.s (.int .i64 t10))), [[], []]⟩
theorem f67.wn (x : Int) : ∃ res, ∀ {R : Type} (K : Res env → Option R), f67.w x K = K res := by
  exact ⟨_, fun _ => rfl⟩
def f67.hd (k : Nat) (ps_ : List (P2 env)) : Cl env :=
  gC Cl.no ps_ fun p_ ps_ => qC Cl.no p_ fun c_ => qSl Cl.no 3 c_ fun xs1 => gC Cl.no ps_ fun p_ ps_ => qC Cl.no p_ fun c_ => qS Cl.no c_ fun v_ => vI Cl.no .i64 v_ fun a2 => gE Cl.no ps_ <| { α := Int, o := f67 k xs1 a2, w := f67.w, nat := fun x _ => f67.wn x }
def f67.e (k : Nat) : Entry env := ⟨fun ps => f67.hd k (coer [[.rd 3], [.no]] ps), [], []⟩
def f67.X (k : Nat) : Ctx env := { C := lookE [], L := lookE [(2, fun S => f67.l2.hd k S.ts S.m S.n)], J := lookE [], keep := lookD [(2, [0, 1, 5])], keepX := lookD [(2, [1, 4])], span := lookN [(2, 272)], eff := fun n => memN n [], prep := lookP [], np := 0 }
theorem f67.l2.nat {R : Type} (k : Nat) (rec_ : (List Int) → Int → Int → Option ((Int × Int) ⊕ (Int))) (g : ((Int × Int) ⊕ (Int)) → Option R) (xs3 : List Int) (a4 : Int) (a5 : Int) : (f67.l2.step k rec_ some xs3 a4 a5).bind g = f67.l2.step k (fun xs3 a4 a5 => (rec_ xs3 a4 a5).bind g) g xs3 a4 a5 := by
  simp only [f67.l2.step, bind_ite, bind_sum, Option.bind_assoc, Option.bind_some, Option.bind_none]
theorem f67.l2.good (k : Nat) (xs3 : List Int) (a4 : Int) (a5 : Int) : GoodL (f67.X k) (nthC 0 (loopsOf (bodyOf Try.f67))) (f67.l2.st xs3 a4 a5) { α := ((Int × Int) ⊕ (Int)), o := f67.l2 k k xs3 a4 a5, w := f67.l2.w } :=
  loop_good (ι := (List Int) × Int × Int) (α := ((Int × Int) ⊕ (Int))) (fun i => f67.l2.st i.1 i.2.1 i.2.2) (fun j i => f67.l2 k j i.1 i.2.1 i.2.2) f67.l2.w (fun rec_ ret i => f67.l2.step k (fun xs3 a4 a5 => rec_ (xs3, a4, a5)) ret i.1 i.2.1 i.2.2)
    (fun _ => rfl) (fun _ _ => rfl) (fun rec_ g i => f67.l2.nat k _ g i.1 i.2.1 i.2.2) (fun {R} i0 i rec_ K => by kernel_rfl) k (xs3, a4, a5)
theorem f67.l2.all (k : Nat) (S : St env) : GoodL (f67.X k) (nthC 0 (loopsOf (bodyOf Try.f67))) S (f67.l2.hd k S.ts S.m S.n) := by
  obtain ⟨ts_, m_, n_⟩ := S
  show GoodL _ _ _ (f67.l2.hd k ts_ m_ n_)
  unfold f67.l2.hd
  refine gTs_ok (p := GoodL _ _ _) goodL_no fun _ h => ?_
  subst h
  refine gV_ok (p := GoodL _ _ _) goodL_no fun _ _ h => ?_
  subst h
  refine rImm_ok (p := GoodL _ _ _) goodL_no fun _ h => ?_
  subst h
  refine gV_ok (p := GoodL _ _ _) goodL_no fun _ _ h => ?_
  subst h
  refine rV_ok (p := GoodL _ _ _) goodL_no fun _ h => ?_
  subst h
  refine vI_ok (p := GoodL _ _ _) goodL_no fun _ h => ?_
  subst h
  refine gV_ok (p := GoodL _ _ _) goodL_no fun _ _ h => ?_
  subst h
  refine rV_ok (p := GoodL _ _ _) goodL_no fun _ h => ?_
  subst h
  refine vI_ok (p := GoodL _ _ _) goodL_no fun _ h => ?_
  subst h
  refine gE_ok (p := GoodL _ _ _) goodL_no fun h => ?_
  subst h
  refine gE_ok (p := GoodL _ _ _) goodL_no fun h => ?_
  subst h
  refine gN_ok (p := GoodL _ _ _) goodL_no fun h => ?_
  subst h
  exact f67.l2.good k _ _ _
theorem f67.nat {R : Type} (k : Nat) (g : Int → Option R) (xs1 : List Int) (a2 : Int) : f67.step k g xs1 a2 = (f67 k xs1 a2).bind g := by
  simp only [f67, f67.step, bind_ite, bind_sum, Option.bind_assoc, Option.bind_some, Option.bind_none]
theorem f67.ev (k : Nat) (xs1 : List Int) (a2 : Int) : evF (f67.X k) (bodyOf Try.f67) Try.f67.ntmps Try.f67.results.toList [.v (.c (.sl 3 xs1)), .v (.c (.s (.int .i64 a2)))] = f67.step k (fun x => f67.w x some) xs1 a2 := by kernel_rfl
theorem f67.hok (k : Nat) : HOK (f67.X k) (bodyOf Try.f67) where
  l := allP_mem (by exact ⟨ls_of (h0 := fun S => f67.l2.hd k S.ts S.m S.n) (by kernel_rfl) (f67.l2.all k), trivial⟩)
  j := allP_mem (by exact trivial)
theorem f67.sound0 (k : Nat) : SoundC env Try.prog 67 (f67.hd k) := by
  intro ps_
  show GoodC _ _ _ ps_ (f67.hd k ps_)
  unfold f67.hd
  refine gC_ok (p := GoodC env Try.prog 67 _) goodC_no fun _ _ h => ?_
  subst h
  refine qC_ok (p := GoodC env Try.prog 67 _) goodC_no fun _ h => ?_
  subst h
  refine qSl_ok (p := GoodC env Try.prog 67 _) goodC_no fun _ h => ?_
  subst h
  refine gC_ok (p := GoodC env Try.prog 67 _) goodC_no fun _ _ h => ?_
  subst h
  refine qC_ok (p := GoodC env Try.prog 67 _) goodC_no fun _ h => ?_
  subst h
  refine qS_ok (p := GoodC env Try.prog 67 _) goodC_no fun _ h => ?_
  subst h
  refine vI_ok (p := GoodC env Try.prog 67 _) goodC_no fun _ h => ?_
  subst h
  refine gE_ok (p := GoodC env Try.prog 67 _) goodC_no fun h => ?_
  subst h
  exact fun_good (fun_sound envOK (cs_sound _ (by exact trivial)) (f67.hok k) Try.func67 rfl) ((f67.ev k _ _).trans (f67.nat k _ _ _))
theorem f67.sound (k : Nat) : SoundC env Try.prog 67 (f67.e k).F := soundC_coer (f67.sound0 k) [[.rd 3], [.no]]
theorem f67.says (k : Nat) (xs1 : List Int) (a2 : Int) (t11 : Int) (h_ : f67 k xs1 a2 = some t11) : SoundAt env Try.prog 67 [.v (.c (.sl 3 xs1)), .v (.c (.s (.int .i64 a2)))] ⟨.v (.c (.s (.int .i64 t11))), [[], []]⟩ :=
  fun_sound envOK (cs_sound _ (by exact trivial)) (f67.hok k) Try.func67 rfl _ _ (((f67.ev k xs1 a2).trans (f67.nat k _ xs1 a2)).trans (by rw [h_]; rfl))
theorem f67.fnok : FnOK Try.prog 67 := fn_ok Try.func67 (by kernel_rfl) rfl
def f75.l2.step {R : Type} (k : Nat) (rec_ : (List (List Int)) → Int → Int → Option R) (ret : ((Int × Int) ⊕ (Int)) → Option R) (xs3 : List (List Int)) (a4 : Int) (a5 : Int) : Option R :=
  if (decide (a5 < (((List.length xs3) : Nat) : Int))) = true then
    if (0 : Int) ≤ a5 then
      if a5 < ((List.length xs3 : Nat) : Int) then
        (f67 k (List.getD xs3 (Int.toNat a5) []) a4).bind fun t6 => if (decide (t6 < (0 : Int))) = true then
            ret (.inl (t6, (-1 : Int)))
          else
            rec_ xs3 t6 (IntKind.i64.wrap (a5 + (1 : Int)))
      else none
    else none
  else
    ret (.inr a4)
def f75.l2 (k : Nat) : Nat → (List (List Int)) → Int → Int → Option ((Int × Int) ⊕ (Int))
  | 0, _, _, _ => none
  | j + 1, xs3, a4, a5 => f75.l2.step k (fun xs3 a4 a5 => f75.l2 k j xs3 a4 a5) some xs3 a4 a5
def f75.l2.w {R : Type} : ((Int × Int) ⊕ (Int)) → (Exit → St env → Option R) → Option R := fun x K => Sum.elim (fun t9 => K .ret ⟨fullT [1, 4] 0 21 [.v (.c (.s (.int .i64 t9.1))), .v (.c (.s (.int .i64 t9.2)))], [], 306⟩) (fun t10 => K (.exit 0) ⟨fullT [1] 0 21 [.v (.c (.s (.int .i64 t10)))], [], 306⟩) x
def f75.l2.st (xs3 : List (List Int)) (a4 : Int) (a5 : Int) : St env := ⟨fullT [0, 1, 5] 0 21 [.v (.c (.imm 33 xs3)), .v (.c (.s (.int .i64 a4))), .v (.c (.s (.int .i64 a5)))], [], 34⟩
def f75.l2.hd (k : Nat) (ts_ : List (AV env)) (mm_ : Mem env) (n_ : Nat) : LCl env :=
  gTs LCl.no [0, 1, 5] 21 ts_ fun l_ => gV LCl.no l_ fun a_ l_ => rImm LCl.no 33 a_ fun xs3 => gV LCl.no l_ fun a_ l_ => rV LCl.no a_ fun v_ => vI LCl.no .i64 v_ fun a4 => gV LCl.no l_ fun a_ l_ => rV LCl.no a_ fun v_ => vI LCl.no .i64 v_ fun a5 => gE LCl.no l_ <| gE LCl.no mm_ <| gN LCl.no 34 n_ { α := (Int × Int) ⊕ (Int), o := f75.l2 k k xs3 a4 a5, w := f75.l2.w }
def f75.step {R : Type} (k : Nat) (ret : Int → Option R) (xs1 : List (List Int)) (a2 : Int) : Option R :=
  (f75.l2 k k xs1 a2 (0 : Int)).bind (Sum.elim (fun t7 => ret t7.2) (fun t8 => ret t8))
def f75 (k : Nat) (xs1 : List (List Int)) (a2 : Int) : Option Int := f75.step k some xs1 a2
def f75.w {R : Type} : Int → (Res env → Option R) → Option R := fun t11 K => K ⟨.v (.c (.s (.int .i64 t11))), [[], []]⟩
theorem f75.wn (x : Int) : ∃ res, ∀ {R : Type} (K : Res env → Option R), f75.w x K = K res := by
  exact ⟨_, fun _ => rfl⟩
def f75.hd (k : Nat) (ps_ : List (P2 env)) : Cl env :=
  gC Cl.no ps_ fun p_ ps_ => qC Cl.no p_ fun c_ => qSl Cl.no 33 c_ fun xs1 => gC Cl.no ps_ fun p_ ps_ => qC Cl.no p_ fun c_ => qS Cl.no c_ fun v_ => vI Cl.no .i64 v_ fun a2 => gE Cl.no ps_ <| { α := Int, o := f75 k xs1 a2, w := f75.w, nat := fun x _ => f75.wn x }
def f75.e (k : Nat) : Entry env := ⟨fun ps => f75.hd k (coer [[.rd 33], [.no]] ps), [], []⟩
def f75.X (k : Nat) : Ctx env := { C := lookE [(67, f67.e k)], L := lookE [(2, fun S => f75.l2.hd k S.ts S.m S.n)], J := lookE [], keep := lookD [(2, [0, 1, 5])], keepX := lookD [(2, [1, 4])], span := lookN [(2, 272)], eff := fun n => memN n [], prep := lookP [], np := 0 }
theorem f75.l2.nat {R : Type} (k : Nat) (rec_ : (List (List Int)) → Int → Int → Option ((Int × Int) ⊕ (Int))) (g : ((Int × Int) ⊕ (Int)) → Option R) (xs3 : List (List Int)) (a4 : Int) (a5 : Int) : (f75.l2.step k rec_ some xs3 a4 a5).bind g = f75.l2.step k (fun xs3 a4 a5 => (rec_ xs3 a4 a5).bind g) g xs3 a4 a5 := by
  simp only [f75.l2.step, bind_ite, bind_sum, Option.bind_assoc, Option.bind_some, Option.bind_none]
theorem f75.l2.good (k : Nat) (xs3 : List (List Int)) (a4 : Int) (a5 : Int) : GoodL (f75.X k) (nthC 0 (loopsOf (bodyOf Try.f75))) (f75.l2.st xs3 a4 a5) { α := ((Int × Int) ⊕ (Int)), o := f75.l2 k k xs3 a4 a5, w := f75.l2.w } :=
  loop_good (ι := (List (List Int)) × Int × Int) (α := ((Int × Int) ⊕ (Int))) (fun i => f75.l2.st i.1 i.2.1 i.2.2) (fun j i => f75.l2 k j i.1 i.2.1 i.2.2) f75.l2.w (fun rec_ ret i => f75.l2.step k (fun xs3 a4 a5 => rec_ (xs3, a4, a5)) ret i.1 i.2.1 i.2.2)
    (fun _ => rfl) (fun _ _ => rfl) (fun rec_ g i => f75.l2.nat k _ g i.1 i.2.1 i.2.2) (fun {R} i0 i rec_ K => by kernel_rfl) k (xs3, a4, a5)
theorem f75.l2.all (k : Nat) (S : St env) : GoodL (f75.X k) (nthC 0 (loopsOf (bodyOf Try.f75))) S (f75.l2.hd k S.ts S.m S.n) := by
  obtain ⟨ts_, m_, n_⟩ := S
  show GoodL _ _ _ (f75.l2.hd k ts_ m_ n_)
  unfold f75.l2.hd
  refine gTs_ok (p := GoodL _ _ _) goodL_no fun _ h => ?_
  subst h
  refine gV_ok (p := GoodL _ _ _) goodL_no fun _ _ h => ?_
  subst h
  refine rImm_ok (p := GoodL _ _ _) goodL_no fun _ h => ?_
  subst h
  refine gV_ok (p := GoodL _ _ _) goodL_no fun _ _ h => ?_
  subst h
  refine rV_ok (p := GoodL _ _ _) goodL_no fun _ h => ?_
  subst h
  refine vI_ok (p := GoodL _ _ _) goodL_no fun _ h => ?_
  subst h
  refine gV_ok (p := GoodL _ _ _) goodL_no fun _ _ h => ?_
  subst h
  refine rV_ok (p := GoodL _ _ _) goodL_no fun _ h => ?_
  subst h
  refine vI_ok (p := GoodL _ _ _) goodL_no fun _ h => ?_
  subst h
  refine gE_ok (p := GoodL _ _ _) goodL_no fun h => ?_
  subst h
  refine gE_ok (p := GoodL _ _ _) goodL_no fun h => ?_
  subst h
  refine gN_ok (p := GoodL _ _ _) goodL_no fun h => ?_
  subst h
  exact f75.l2.good k _ _ _
theorem f75.nat {R : Type} (k : Nat) (g : Int → Option R) (xs1 : List (List Int)) (a2 : Int) : f75.step k g xs1 a2 = (f75 k xs1 a2).bind g := by
  simp only [f75, f75.step, bind_ite, bind_sum, Option.bind_assoc, Option.bind_some, Option.bind_none]
theorem f75.ev (k : Nat) (xs1 : List (List Int)) (a2 : Int) : evF (f75.X k) (bodyOf Try.f75) Try.f75.ntmps Try.f75.results.toList [.v (.c (.sl 33 xs1)), .v (.c (.s (.int .i64 a2)))] = f75.step k (fun x => f75.w x some) xs1 a2 := by kernel_rfl
theorem f75.hok (k : Nat) : HOK (f75.X k) (bodyOf Try.f75) where
  l := allP_mem (by exact ⟨ls_of (h0 := fun S => f75.l2.hd k S.ts S.m S.n) (by kernel_rfl) (f75.l2.all k), trivial⟩)
  j := allP_mem (by exact trivial)
theorem f75.sound0 (k : Nat) : SoundC env Try.prog 75 (f75.hd k) := by
  intro ps_
  show GoodC _ _ _ ps_ (f75.hd k ps_)
  unfold f75.hd
  refine gC_ok (p := GoodC env Try.prog 75 _) goodC_no fun _ _ h => ?_
  subst h
  refine qC_ok (p := GoodC env Try.prog 75 _) goodC_no fun _ h => ?_
  subst h
  refine qSl_ok (p := GoodC env Try.prog 75 _) goodC_no fun _ h => ?_
  subst h
  refine gC_ok (p := GoodC env Try.prog 75 _) goodC_no fun _ _ h => ?_
  subst h
  refine qC_ok (p := GoodC env Try.prog 75 _) goodC_no fun _ h => ?_
  subst h
  refine qS_ok (p := GoodC env Try.prog 75 _) goodC_no fun _ h => ?_
  subst h
  refine vI_ok (p := GoodC env Try.prog 75 _) goodC_no fun _ h => ?_
  subst h
  refine gE_ok (p := GoodC env Try.prog 75 _) goodC_no fun h => ?_
  subst h
  exact fun_good (fun_sound envOK (cs_sound _ (by exact ⟨⟨f67.sound k, f67.fnok⟩, trivial⟩)) (f75.hok k) Try.func75 rfl) ((f75.ev k _ _).trans (f75.nat k _ _ _))
theorem f75.sound (k : Nat) : SoundC env Try.prog 75 (f75.e k).F := soundC_coer (f75.sound0 k) [[.rd 33], [.no]]
theorem f75.says (k : Nat) (xs1 : List (List Int)) (a2 : Int) (t12 : Int) (h_ : f75 k xs1 a2 = some t12) : SoundAt env Try.prog 75 [.v (.c (.sl 33 xs1)), .v (.c (.s (.int .i64 a2)))] ⟨.v (.c (.s (.int .i64 t12))), [[], []]⟩ :=
  fun_sound envOK (cs_sound _ (by exact ⟨⟨f67.sound k, f67.fnok⟩, trivial⟩)) (f75.hok k) Try.func75 rfl _ _ (((f75.ev k xs1 a2).trans (f75.nat k _ xs1 a2)).trans (by rw [h_]; rfl))
theorem f75.fnok : FnOK Try.prog 75 := fn_ok Try.func75 (by kernel_rfl) rfl
def f13.step {R : Type} (k : Nat) (ret : Bool → Option R) (xs1 : List S195) (xs2 : List (List S225)) (a3 : Int) : Option R :=
  (f41 k xs1 xs2 a3 (1048576 : Int)).bind fun t4 => if (decide (t4 < (0 : Int))) = true then
      ret true
    else
      (f43 k xs1 xs2 a3).bind fun t5 => (f71 k t5.1 t5.2.1 t5.2.2).bind fun t6 => (f43 k xs1 xs2 a3).bind fun t7 => (f72 k t7.1 t7.2.1 t7.2.2).bind (Sum.elim (fun t8 => (f73 k ([] : List (List Int)) t6.1).bind fun t9 => if (!t9) = false then
                  if (decide (t8 ≠ t6.2)) = true then
                    ret false
                  else
                    (f43 k xs1 xs2 a3).bind fun t10 => (f45 k t7.1 t7.2.1 t7.2.2 t10.1 t10.2.1 t10.2.2).bind fun t11 => if (!t11) = true then
                          ret false
                        else
                          (f66 k t7.1 t7.2.1 t7.2.2 (1 : Int)).bind fun t12 => if (decide (t12.1 < (0 : Int))) = false then
                              (f73 k ([] : List (List Int)) t6.1).bind fun t13 => if (!t13) = false then
                                  if (decide (t8 ≠ t6.2)) = true then
                                    ret false
                                  else
                                    (f74 k ([] : List (List Int)) (1 : Int)).bind fun t14 => (f75 k ([] : List (List Int)) (1 : Int)).bind fun t15 => if (decide (t15 < (0 : Int))) = true then
                                          ret false
                                        else
                                          if (decide (t15 ≠ t14.1)) = true then
                                            ret false
                                          else
                                            (f43 k xs1 xs2 a3).bind fun t16 => (f72 k t16.1 t16.2.1 t16.2.2).bind (Sum.elim (fun t17 => (f73 k ([] : List (List Int)) t6.1).bind fun t18 => if (!t18) = false then
                                                    if (decide (t17 ≠ t6.2)) = true then
                                                      ret false
                                                    else
                                                      (f75 k ([] : List (List Int)) (1 : Int)).bind fun t19 => if (decide (t19 < (0 : Int))) = true then
                                                          ret false
                                                        else
                                                          if (decide (t19 ≠ t14.1)) = true then
                                                            ret false
                                                          else
                                                            ret true
                                                  else
                                                    ret false) (fun t20 => (f73 k t20.1 t6.1).bind fun t21 => if (!t21) = false then
                                                    if (decide (t20.2 ≠ t6.2)) = true then
                                                      ret false
                                                    else
                                                      (f75 k ([] : List (List Int)) (1 : Int)).bind fun t22 => if (decide (t22 < (0 : Int))) = true then
                                                          ret false
                                                        else
                                                          if (decide (t22 ≠ t14.1)) = true then
                                                            ret false
                                                          else
                                                            ret true
                                                  else
                                                    ret false))
                                else
                                  ret false
                            else
                              ret false
                else
                  ret false) (fun t23 => (f73 k t23.1 t6.1).bind fun t24 => if (!t24) = false then
                  if (decide (t23.2 ≠ t6.2)) = true then
                    ret false
                  else
                    (f43 k xs1 xs2 a3).bind fun t25 => (f45 k t7.1 t7.2.1 t7.2.2 t25.1 t25.2.1 t25.2.2).bind fun t26 => if (!t26) = true then
                          ret false
                        else
                          (f66 k t7.1 t7.2.1 t7.2.2 (1 : Int)).bind fun t27 => if (decide (t27.1 < (0 : Int))) = false then
                              (f73 k t23.1 t6.1).bind fun t28 => if (!t28) = false then
                                  if (decide (t23.2 ≠ t6.2)) = true then
                                    ret false
                                  else
                                    (f74 k t23.1 (1 : Int)).bind fun t29 => (f75 k t29.2 (1 : Int)).bind fun t30 => if (decide (t30 < (0 : Int))) = true then
                                          ret false
                                        else
                                          if (decide (t30 ≠ t29.1)) = true then
                                            ret false
                                          else
                                            (f43 k xs1 xs2 a3).bind fun t31 => (f72 k t31.1 t31.2.1 t31.2.2).bind (Sum.elim (fun t32 => (f73 k ([] : List (List Int)) t6.1).bind fun t33 => if (!t33) = false then
                                                    if (decide (t32 ≠ t6.2)) = true then
                                                      ret false
                                                    else
                                                      (f75 k t29.2 (1 : Int)).bind fun t34 => if (decide (t34 < (0 : Int))) = true then
                                                          ret false
                                                        else
                                                          if (decide (t34 ≠ t29.1)) = true then
                                                            ret false
                                                          else
                                                            ret true
                                                  else
                                                    ret false) (fun t35 => (f73 k t35.1 t6.1).bind fun t36 => if (!t36) = false then
                                                    if (decide (t35.2 ≠ t6.2)) = true then
                                                      ret false
                                                    else
                                                      (f75 k t29.2 (1 : Int)).bind fun t37 => if (decide (t37 < (0 : Int))) = true then
                                                          ret false
                                                        else
                                                          if (decide (t37 ≠ t29.1)) = true then
                                                            ret false
                                                          else
                                                            ret true
                                                  else
                                                    ret false))
                                else
                                  ret false
                            else
                              ret false
                else
                  ret false))
def f13 (k : Nat) (xs1 : List S195) (xs2 : List (List S225)) (a3 : Int) : Option Bool := f13.step k some xs1 xs2 a3
def f13.w {R : Type} : Bool → (Res env → Option R) → Option R := fun t38 K => K ⟨.v (.c (.s (.bool t38))), [[]]⟩
theorem f13.wn (x : Bool) : ∃ res, ∀ {R : Type} (K : Res env → Option R), f13.w x K = K res := by
  exact ⟨_, fun _ => rfl⟩
def f13.hd (k : Nat) (ps_ : List (P2 env)) : Cl env :=
  gC Cl.no ps_ fun p_ ps_ => qG Cl.no p_ fun cs_ => gC Cl.no cs_ fun c_ cs_ => qSl Cl.no 195 c_ fun xs1 => gC Cl.no cs_ fun c_ cs_ => qSl Cl.no 193 c_ fun xs2 => gC Cl.no cs_ fun c_ cs_ => qS Cl.no c_ fun v_ => vI Cl.no .i64 v_ fun a3 => gE Cl.no cs_ <| gE Cl.no ps_ <| { α := Bool, o := f13 k xs1 xs2 a3, w := f13.w, nat := fun x _ => f13.wn x }
def f13.e (k : Nat) : Entry env := ⟨fun ps => f13.hd k (coer [[.rd 195, .rd 193, .no]] ps), [], []⟩
def f13.X (k : Nat) : Ctx env := { C := lookE [(41, f41.e k), (43, f43.e k), (45, f45.e k), (66, f66.e k), (71, f71.e k), (72, f72.e k), (73, f73.e k), (74, f74.e k), (75, f75.e k)], L := lookE [], J := lookE [], keep := lookD [], keepX := lookD [], span := lookN [], eff := fun n => memN n [10], prep := lookP [], np := 0 }
theorem f13.nat {R : Type} (k : Nat) (g : Bool → Option R) (xs1 : List S195) (xs2 : List (List S225)) (a3 : Int) : f13.step k g xs1 xs2 a3 = (f13 k xs1 xs2 a3).bind g := by
  simp only [f13, f13.step, bind_ite, bind_sum, Option.bind_assoc, Option.bind_some, Option.bind_none]
theorem f13.ev (k : Nat) (xs1 : List S195) (xs2 : List (List S225)) (a3 : Int) : evF (f13.X k) (bodyOf Try.f13) Try.f13.ntmps Try.f13.results.toList [.g [.sl 195 xs1, .sl 193 xs2, .s (.int .i64 a3)]] = f13.step k (fun x => f13.w x some) xs1 xs2 a3 := by kernel_rfl
theorem f13.hok (k : Nat) : HOK (f13.X k) (bodyOf Try.f13) where
  l := allP_mem (by exact trivial)
  j := allP_mem (by exact trivial)
theorem f13.sound0 (k : Nat) : SoundC env Try.prog 13 (f13.hd k) := by
  intro ps_
  show GoodC _ _ _ ps_ (f13.hd k ps_)
  unfold f13.hd
  refine gC_ok (p := GoodC env Try.prog 13 _) goodC_no fun _ _ h => ?_
  subst h
  refine qG_ok (p := GoodC env Try.prog 13 _) goodC_no fun _ h => ?_
  subst h
  refine gC_ok (p := GoodC env Try.prog 13 _) goodC_no fun _ _ h => ?_
  subst h
  refine qSl_ok (p := GoodC env Try.prog 13 _) goodC_no fun _ h => ?_
  subst h
  refine gC_ok (p := GoodC env Try.prog 13 _) goodC_no fun _ _ h => ?_
  subst h
  refine qSl_ok (p := GoodC env Try.prog 13 _) goodC_no fun _ h => ?_
  subst h
  refine gC_ok (p := GoodC env Try.prog 13 _) goodC_no fun _ _ h => ?_
  subst h
  refine qS_ok (p := GoodC env Try.prog 13 _) goodC_no fun _ h => ?_
  subst h
  refine vI_ok (p := GoodC env Try.prog 13 _) goodC_no fun _ h => ?_
  subst h
  refine gE_ok (p := GoodC env Try.prog 13 _) goodC_no fun h => ?_
  subst h
  refine gE_ok (p := GoodC env Try.prog 13 _) goodC_no fun h => ?_
  subst h
  exact fun_good (fun_sound envOK (cs_sound _ (by exact ⟨⟨f41.sound k, f41.fnok⟩, ⟨f43.sound k, f43.fnok⟩, ⟨f45.sound k, f45.fnok⟩, ⟨f66.sound k, f66.fnok⟩, ⟨f71.sound k, f71.fnok⟩, ⟨f72.sound k, f72.fnok⟩, ⟨f73.sound k, f73.fnok⟩, ⟨f74.sound k, f74.fnok⟩, ⟨f75.sound k, f75.fnok⟩, trivial⟩)) (f13.hok k) Try.func13 rfl) ((f13.ev k _ _ _).trans (f13.nat k _ _ _ _))
theorem f13.sound (k : Nat) : SoundC env Try.prog 13 (f13.e k).F := soundC_coer (f13.sound0 k) [[.rd 195, .rd 193, .no]]
theorem f13.says (k : Nat) (xs1 : List S195) (xs2 : List (List S225)) (a3 : Int) (t39 : Bool) (h_ : f13 k xs1 xs2 a3 = some t39) : SoundAt env Try.prog 13 [.g [.sl 195 xs1, .sl 193 xs2, .s (.int .i64 a3)]] ⟨.v (.c (.s (.bool t39))), [[]]⟩ :=
  fun_sound envOK (cs_sound _ (by exact ⟨⟨f41.sound k, f41.fnok⟩, ⟨f43.sound k, f43.fnok⟩, ⟨f45.sound k, f45.fnok⟩, ⟨f66.sound k, f66.fnok⟩, ⟨f71.sound k, f71.fnok⟩, ⟨f72.sound k, f72.fnok⟩, ⟨f73.sound k, f73.fnok⟩, ⟨f74.sound k, f74.fnok⟩, ⟨f75.sound k, f75.fnok⟩, trivial⟩)) (f13.hok k) Try.func13 rfl _ _ (((f13.ev k xs1 xs2 a3).trans (f13.nat k _ xs1 xs2 a3)).trans (by rw [h_]; rfl))
theorem f13.fnok : FnOK Try.prog 13 := fn_ok Try.func13 (by kernel_rfl) rfl
end Go.Proofs.Ytildepkogbcdpaa.B
