/- A reckoner of Go's operations over plain values: rows as lists, variables as cells; what it answers is told of the program in BSound. -/
import GoSem.Dispatch
import Derived.Calls
import Derived.Still
import Derived.Laws.Sem
namespace Go.B
open Go
set_option linter.unusedVariables false
set_option linter.unusedSimpArgs false
inductive CK | sc | sl (e : TypeId)
 deriving DecidableEq
structure TI where
 desc : TypeDesc
 size : Nat
 bytes : Nat
 zero : Option Value
 agg : Bool
 ck : List CK
inductive Cell (T : TypeId → Type) | s (v : Value) | sl (e : TypeId) (xs : List (T e)) | wr (e : TypeId) (xs : List (T e))
structure Env where
 T : TypeId → Type
 dflt : (e : TypeId) → T e
 cells : (e : TypeId) → T e → List (Cell T)
 make : (e : TypeId) → List (Cell T) → Option (T e)
 info : TypeId → Option TI
 bytes : (e : TypeId) → List Int → Option (List (T e))
 ints : (e : TypeId) → List (T e) → Option (List Int)
 eqF : TypeId → Option (List (Nat × Nat))
 glob : World → (Nat → Prop) → Prop := fun _ _ => True
inductive A1 (E : Env) | s (v : Value) | imm (e : TypeId) (xs : List (E.T e)) | row (id : Nat) | win (id lo n : Nat) | bp (id off : Nat)
 | ip (e : TypeId) (x : E.T e) (off : Nat) | rp (id i off : Nat) | ap (id lo n x : Nat) | rv (id : Nat) | vp (id i off : Nat) | hd (id i off : Nat) | hp (id i off j o : Nat) | fn (g : FuncId) (ids : List (Nat × TypeId)) | fnp (g : FuncId) (xs : List (Sigma E.T)) | junk
inductive A2 (E : Env) | c (x : A1 E) | g (cs : List (A1 E))
inductive AV (E : Env) | v (x : A2 E) | tup (vs : List (A2 E))
inductive Blk (E : Env) | box (cs : List (A1 E)) | row (deep : Bool) (e : TypeId) (xs : List (E.T e)) | rowV (e : TypeId) (xs : List (E.T e))
inductive P1 (E : Env) | c (x : Cell E.T) | ptr (cs : List (Cell E.T)) | ro (e : TypeId) (x : E.T e) | fn (g : FuncId) (xs : List (Sigma E.T))
inductive P2 (E : Env) | v (x : P1 E) | g (cs : List (Cell E.T))
inductive R1 (E : Env) | s (v : Value) | own (deep : Bool) (e : TypeId) (xs : List (E.T e)) | imm (e : TypeId) (xs : List (E.T e)) | ptr (cs : List (Cell E.T))
inductive R2 (E : Env) | c (x : R1 E) | g (cs : List (R1 E))
inductive RV (E : Env) | v (x : R2 E) | tup (vs : List (R2 E))
structure Res (E : Env) where
 rv : RV E
 upd : List (List (Cell E.T))
structure Cl (E : Env) where
 α : Type
 o : Option α
 w : {R : Type} → α → (Res E → Option R) → Option R
 nat : ∀ (a : α), o = some a → ∃ res, ∀ {R : Type} (K : Res E → Option R), w a K = K res
structure Entry (E : Env) where
 F : List (P2 E) → Cl E
 wr : List (Nat × Nat)
 caps : List TypeId := []
abbrev Mem (E : Env) := List (Nat × Blk E)
variable {E : Env}
def look : Mem E → Nat → Option (Blk E)
 | [], _ => none
 | (j, b) :: m, i => match decEq j i with
  | isTrue _ => some b
  | isFalse _ => look m i
def setm : Mem E → Nat → Blk E → Mem E
 | [], i, b => [(i, b)]
 | (j, c) :: m, i, b => match decEq j i with
  | isTrue _ => (i, b) :: m
  | isFalse _ => (j, c) :: setm m i b
def delm : Mem E → Nat → Mem E
 | [], _ => []
 | (j, c) :: m, i => match decEq j i with
  | isTrue _ => delm m i
  | isFalse _ => (j, c) :: delm m i
def forceV {R : Type} (v : Value) (k : Value → R) : R := match v with
 | .int q n => k (.int q n)
 | .bool b => k (.bool b)
 | .string s => k (.string s)
 | v => k v
def forceA {R : Type} (a : A1 E) (k : A1 E → R) : R := match a with
 | .s v => forceV v fun v => k (.s v)
 | .imm e xs => k (.imm e xs)
 | .row id => k (.row id)
 | .win id lo n => k (.win id lo n)
 | .bp id off => k (.bp id off)
 | .ip e x off => k (.ip e x off)
 | .rp id i off => k (.rp id i off)
 | .ap id lo n x => k (.ap id lo n x)
 | .rv id => k (.rv id)
 | .vp id i off => k (.vp id i off)
 | .hd id i off => k (.hd id i off)
 | .hp id i off j o => k (.hp id i off j o)
 | .fn g ids => k (.fn g ids)
 | .fnp g xs => k (.fnp g xs)
 | .junk => k .junk
def forceL {R : Type} : List (A1 E) → (List (A1 E) → R) → R
 | [], k => k []
 | a :: as, k => forceA a fun a => forceL as fun as => k (a :: as)
def forceA2 {R : Type} (a : A2 E) (k : A2 E → R) : R := match a with
 | .c a => forceA a fun a => k (.c a)
 | .g cs => forceL cs fun cs => k (.g cs)
def forceL2 {R : Type} : List (A2 E) → (List (A2 E) → R) → R
 | [], k => k []
 | a :: as, k => forceA2 a fun a => forceL2 as fun as => k (a :: as)
def forceAV {R : Type} (a : AV E) (k : AV E → R) : R := match a with
 | .v a => forceA2 a fun a => k (.v a)
 | .tup as => forceL2 as fun as => k (.tup as)
def forceB {R : Type} (b : Blk E) (k : Blk E → R) : R := match b with
 | .box cs => forceL cs fun cs => k (.box cs)
 | .row d e xs => k (.row d e xs)
 | .rowV e xs => k (.rowV e xs)
def setmK {R : Type} : Mem E → Nat → Blk E → (Mem E → R) → R
 | [], i, b, k => k [(i, b)]
 | (j, c) :: m, i, b, k => match decEq j i with
  | isTrue _ => k ((i, b) :: m)
  | isFalse _ => setmK m i b fun m => k ((j, c) :: m)
def delmK {R : Type} : Mem E → Nat → (Mem E → R) → R
 | [], _, k => k []
 | (j, c) :: m, i, k => match decEq j i with
  | isTrue _ => delmK m i k
  | isFalse _ => delmK m i fun m => k ((j, c) :: m)
inductive Mp (E : Env) : Type 1
 | ret (v : AV E)
 | fail
 | guard (c : Prop) (d : Decidable c) (k : Mp E)
 | cond (b : Bool) (k k' : Mp E)
 | get (id : Nat) (k : Blk E → Mp E)
 | put (id : Nat) (b : Blk E) (k : Mp E)
 | del (id : Nat) (k : Mp E)
 | call (x : Cl E) (k : Res E → Mp E)
 | mem (k : Mem E → Mp E)
def Mp.run {R : Type} : Mp E → Mem E → (AV E → Mem E → Option R) → Option R
 | .ret v, m, K => K v m
 | .fail, _, _ => none
 | .guard c d k, m, K => @ite _ c d (k.run m K) none
 | .cond b k k', m, K => if b = true then k.run m K else k'.run m K
 | .get id k, m, K => match look m id with
  | some b => (k b).run m K
  | none => none
 | .put id b k, m, K => forceB b fun b => setmK m id b fun m => k.run m K
 | .del id k, m, K => delmK m id fun m => k.run m K
 | .call x k, m, K => x.o.bind fun a => x.w a fun r => (k r).run m K
 | .mem k, m, K => (k m).run m K
def Mp.runD {R : Type} : Mp E → Mem E → (AV E → Option R) → Option R
 | .ret v, m, K => K v
 | .fail, _, _ => none
 | .guard c d k, m, K => @ite _ c d (k.runD m K) none
 | .cond b k k', m, K => if b = true then k.runD m K else k'.runD m K
 | .get id k, m, K => match look m id with
  | some b => (k b).runD m K
  | none => none
 | .put _ _ _, _, _ => none
 | .del _ _, _, _ => none
 | .call x k, m, K => x.o.bind fun a => x.w a fun r => (k r).runD m K
 | .mem k, m, K => (k m).runD m K
def Mp.runE {R : Type} : Mp E → Mem E → List Nat → List Nat → (AV E → Mem E → List Nat → List Nat → Option R) → Option R
 | .ret v, m, rs, ws, K => K v m rs ws
 | .fail, _, _, _, _ => none
 | .guard c d k, m, rs, ws, K => @ite _ c d (k.runE m rs ws K) none
 | .cond b k k', m, rs, ws, K => if b = true then k.runE m rs ws K else k'.runE m rs ws K
 | .get id k, m, rs, ws, K => match look m id with
  | some b => (k b).runE m (id :: rs) ws K
  | none => none
 | .put id b k, m, rs, ws, K => forceB b fun b => setmK m id b fun m => k.runE m rs (id :: ws) K
 | .del id k, m, rs, ws, K => delmK m id fun m => k.runE m rs (id :: ws) K
 | .call x k, m, rs, ws, K => x.o.bind fun a => x.w a fun r => (k r).runE m rs ws K
 | .mem _, _, _, _, _ => none
def info (E : Env) (t : TypeId) (k : TI → Mp E) : Mp E := match E.info t with
 | some i => k i
 | none => .fail
def need (c : Prop) [d : Decidable c] (k : Mp E) : Mp E := .guard c d k
def bt (s : ByteArray) (i : Int) : Int := if h : i.toNat < s.size then ((s[i.toNat]'h).toNat : Int) else 0
def bytesOf (s : ByteArray) : List Int := s.data.toList.map fun b => (b.toNat : Int)
def strOf (xs : List Int) : ByteArray := ⟨(xs.map fun n => UInt8.ofNat n.toNat).toArray⟩
def maxN : Nat := 140737488351232
def bitsV (op : BinOp) (k : IntKind) (x y : Int) : Int :=
 let a := BitVec.ofInt k.bits x
 let b := BitVec.ofInt k.bits y
 k.wrap (match op with | .and => (a &&& b).toNat | .or => (a ||| b).toNat | .xor => (a ^^^ b).toNat | _ => (a &&& ~~~b).toNat : Nat)
def cmpV (op : BinOp) (x y : Int) : Bool :=
 match op with
 | .eql => decide (x = y) | .neq => decide (x ≠ y) | .lss => decide (x < y) | .leq => decide (x ≤ y) | .gtr => decide (x > y) | _ => decide (x ≥ y)
def binV (op : BinOp) (t : TypeId) (x y : Value) (k : Value → Mp E) : Mp E :=
 match x, y with
 | .int kx a, .int ky b =>
  match op with
  | .shl => need (0 ≤ b) (k (.int kx (kx.wrap (a * 2 ^ (min b.toNat kx.bits)))))
  | .shr => need (0 ≤ b) (k (.int kx (a.fdiv (2 ^ (min b.toNat kx.bits)))))
  | .add => need (kx = ky) (k (.int kx (kx.wrap (a + b))))
  | .sub => need (kx = ky) (k (.int kx (kx.wrap (a - b))))
  | .mul => need (kx = ky) (k (.int kx (kx.wrap (a * b))))
  | .quo => need (kx = ky) (need (b ≠ 0) (k (.int kx (kx.wrap (a.tdiv b)))))
  | .rem => need (kx = ky) (need (b ≠ 0) (k (.int kx (a.tmod b))))
  | .and | .or | .xor | .andNot => need (kx = ky) (k (.int kx (bitsV op kx a b)))
  | .eql | .neq | .lss | .leq | .gtr | .geq => need (kx = ky) (k (.bool (cmpV op a b)))
 | .string a, .string b =>
  match op with
  | .add => need (a.size + b.size ≤ maxN) (k (.string (a ++ b)))
  | .eql => k (.bool (decide (a.toList = b.toList)))
  | .neq => k (.bool (decide (a.toList ≠ b.toList)))
  | .lss => k (.bool (Op.bytesLess a.toList b.toList))
  | .gtr => k (.bool (!(Op.bytesLess a.toList b.toList || a.toList == b.toList)))
  | _ => .fail
 | .bool a, .bool b => info E t fun i => match i.desc with
  | .bool => match op with
   | .eql => k (.bool (a == b))
   | .neq => k (.bool (!(a == b)))
   | _ => .fail
  | _ => .fail
 | _, _ => .fail
def unV (op : UnOp) (x : Value) (k : Value → Mp E) : Mp E :=
 match op, x with
 | .neg, .int kx n => k (.int kx (kx.wrap (0 - n)))
 | .not, .bool b => k (.bool (!b))
 | _, _ => .fail
def minV : Value → Value → (Value → Mp E) → Mp E
 | .int k x, .int k' y, K => need (k = k') (K (.int k (if y < x then y else x)))
 | _, _, _ => .fail
def maxV : Value → Value → (Value → Mp E) → Mp E
 | .int k x, .int k' y, K => need (k = k') (K (.int k (if y > x then y else x)))
 | _, _, _ => .fail
def cellA (sh : Bool) : Cell E.T → Option (A1 E)
 | .s v => some (.s v)
 | .sl e xs => if sh then some (.imm e xs) else none
 | .wr _ _ => none
def cellsA (sh : Bool) : List (Cell E.T) → Option (List (A1 E))
 | [] => some []
 | c :: cs => match cellA sh c with
  | some a => match cellsA sh cs with
   | some as => some (a :: as)
   | none => none
  | none => none
def toCells : List CK → List (A1 E) → Bool → (List (Cell E.T) → Bool → Mp E) → Mp E
 | [], [], d, k => k [] d
 | .sc :: ks, .s v :: as, d, k => toCells ks as d fun cs d => k (.s v :: cs) d
 | .sl e :: ks, .s (.slice none 0 0) :: as, d, k => toCells ks as d fun cs d => k (.sl e [] :: cs) d
 | .sl _ :: ks, .imm e xs :: as, _, k => toCells ks as false fun cs d => k (.sl e xs :: cs) d
 | .sl _ :: ks, .row id :: as, d, k => .get id fun b => match b with
  | .row d' e xs => .del id (toCells ks as (d && d') fun cs d => k (.sl e xs :: cs) d)
  | _ => .fail
 | _, _, _, _ => .fail
def seeCell : A1 E → (Cell E.T → Mp E) → Mp E
 | .s v, k => k (.s v)
 | .imm e xs, k => k (.sl e xs)
 | .row id, k => .get id fun b => match b with
  | .row _ e xs => k (.sl e xs)
  | _ => .fail
 | .win id lo n, k => .get id fun b => match b with
  | .row _ e xs => k (.sl e ((xs.drop lo).take n))
  | _ => .fail
 | _, _ => .fail
def seeCells : List (A1 E) → (List (Cell E.T) → Mp E) → Mp E
 | [], k => k []
 | a :: as, k => seeCell a fun c => seeCells as fun cs => k (c :: cs)
def handIn : A2 E → (P2 E → Mp E) → Mp E
 | .c (.bp id 0), k => .get id fun b => match b with
  | .box cs => seeCells cs fun cs => k (.v (.ptr cs))
  | _ => .fail
 | .c (.ip e x 0), k => k (.v (.ro e x))
 | .c (.fnp g xs), k => k (.v (.fn g xs))
 | .c a, k => seeCell a fun c => k (.v (.c c))
 | .g cs, k => seeCells cs fun cs => k (.g cs)
def handIns : List (AV E) → (List (P2 E) → Mp E) → Mp E
 | [], k => k []
 | .v a :: as, k => handIn a fun p => handIns as fun ps => k (p :: ps)
 | _, _ => .fail
def seenA : A1 E → List Nat
 | .row id => [id]
 | .win id _ _ => [id]
 | _ => []
def seenL : List (A1 E) → List Nat
 | [] => []
 | a :: as => seenA a ++ seenL as
def seenV (m : Mem E) : AV E → List Nat
 | .v (.c (.bp id 0)) => match look m id with
  | some (.box cs) => seenL cs
  | _ => []
 | .v (.c a) => seenA a
 | .v (.g cs) => seenL cs
 | .tup _ => []
def seenVs (m : Mem E) : List (AV E) → List Nat
 | [] => []
 | a :: as => seenV m a ++ seenVs m as
def seenK : List (AV E) → (List Nat → Mp E) → Mp E
 | [], k => k []
 | .v (.c (.bp id 0)) :: as, k => .get id fun b => match b with
  | .box cs => seenK as fun is => k (seenL cs ++ is)
  | _ => seenK as k
 | .v (.c a) :: as, k => seenK as fun is => k (seenA a ++ is)
 | .v (.g cs) :: as, k => seenK as fun is => k (seenL cs ++ is)
 | .tup _ :: as, k => seenK as k
def ptrIds : List (AV E) → List Nat
 | [] => []
 | .v (.c (.bp id 0)) :: as => id :: ptrIds as
 | _ :: as => ptrIds as
def dels : List Nat → Mp E → Mp E
 | [], k => k
 | i :: is, k => .del i (dels is k)
def takeBack : List (AV E) → List (List (Cell E.T)) → Mp E → Mp E
 | .v (.c (.bp id 0)) :: as, u :: us, k => match cellsA true u with
  | some cs => .put id (.box cs) (takeBack as us k)
  | none => .fail
 | _ :: as, _ :: us, k => takeBack as us k
 | [], [], k => k
 | _, _, _ => .fail
def plainC : List (Cell E.T) → Bool
 | [] => true
 | .s _ :: cs => plainC cs
 | .sl _ _ :: _ => false
 | .wr _ _ :: _ => false
def freshR : R1 E → Bool
 | .s _ => true
 | .own d _ _ => d
 | .imm _ _ => false
 | .ptr cs => plainC cs
def freshL : List (R1 E) → Bool
 | [] => true
 | r :: rs => freshR r && freshL rs
def freshR2 : R2 E → Bool
 | .c r => freshR r
 | .g rs => freshL rs
def freshR2s : List (R2 E) → Bool
 | [] => true
 | r :: rs => freshR2 r && freshR2s rs
def freshRV : RV E → Bool
 | .v r => freshR2 r
 | .tup rs => freshR2s rs
def plainU : List (List (Cell E.T)) → Bool
 | [] => true
 | u :: us => plainC u && plainU us
def wide : Nat := 16
def getR1 (n : Nat) : R1 E → (A1 E → Nat → Mp E) → Mp E
 | .s v, k => k (.s v) n
 | .own true e xs, k => .put n (.row true e xs) (k (.row n) (n + 1))
 | .own false e xs, k => .put n (.row false e xs) (.del n (k (.imm e xs) (n + 1)))
 | .imm e xs, k => k (.imm e xs) n
 | .ptr cs, k => match cellsA true cs with
  | some cs => .put n (.box cs) (k (.bp n 0) (n + 1))
  | none => .fail
def getR1s (n : Nat) : List (R1 E) → (List (A1 E) → Nat → Mp E) → Mp E
 | [], k => k [] n
 | r :: rs, k => getR1 n r fun a n => getR1s n rs fun as n => k (a :: as) n
def getR2 (n : Nat) : R2 E → (A2 E → Nat → Mp E) → Mp E
 | .c r, k => getR1 n r fun a n => k (.c a) n
 | .g rs, k => getR1s n rs fun as n => k (.g as) n
def getR2s (n : Nat) : List (R2 E) → (List (A2 E) → Nat → Mp E) → Mp E
 | [], k => k [] n
 | r :: rs, k => getR2 n r fun a n => getR2s n rs fun as n => k (a :: as) n
def getRV (n : Nat) : RV E → (AV E → Mp E) → Mp E
 | .v r, k => getR2 n r fun a n' => need (n' ≤ n + wide) (k (.v a))
 | .tup rs, k => getR2s n rs fun as n' => need (n' ≤ n + wide) (k (.tup as))
def setl {α : Type} : List α → Nat → α → List α
 | [], _, _ => []
 | _ :: xs, 0, y => y :: xs
 | x :: xs, n + 1, y => x :: setl xs n y
def setls {α : Type} (xs : List α) (n : Nat) : List α → List α
 | [] => xs
 | y :: ys => setls (setl xs n y) (n + 1) ys
def setlK {α R : Type} : List α → Nat → α → (List α → R) → R
 | [], _, _, k => k []
 | _ :: xs, 0, y, k => k (y :: xs)
 | x :: xs, n + 1, y, k => setlK xs n y fun xs => k (x :: xs)
def geta {α : Type} : List α → Nat → Option α
 | [], _ => none
 | x :: _, 0 => some x
 | _ :: xs, n + 1 => geta xs n
def eqL (as bs : List Value) : List (Nat × Nat) → (Bool → Mp E) → Mp E
 | [], k => k true
 | (o, 0) :: os, k => match geta as o, geta bs o with
  | some (.int p a), some (.int q b) => need (p = q) (eqL as bs os fun r => k (decide (a = b) && r))
  | _, _ => .fail
 | (o, 1) :: os, k => match geta as o, geta bs o with
  | some (.bool a), some (.bool b) => eqL as bs os fun r => k ((a == b) && r)
  | _, _ => .fail
 | (o, _) :: os, k => match geta as o, geta bs o with
  | some (.string a), some (.string b) => eqL as bs os fun r => k (decide (a.toList = b.toList) && r)
  | _, _ => .fail
def plainV : List (A1 E) → Option (List Value)
 | [] => some []
 | .s v :: as => match plainV as with
  | some vs => some (v :: vs)
  | none => none
 | _ :: _ => none
def eqA (op : BinOp) (t : TypeId) (as bs : List (A1 E)) (k : Value → Mp E) : Mp E := match E.eqF t, plainV as, plainV bs with
 | some os, some xs, some ys => match op with
  | .eql => eqL xs ys os fun r => k (.bool r)
  | .neq => eqL xs ys os fun r => k (.bool (!r))
  | _ => .fail
 | _, _, _ => .fail
def Aeval (ts : List (AV E)) : Operand → AV E
 | .tmp t => match geta ts t with
  | some v => v
  | none => .v (.c .junk)
 | .const v => match v with
  | .agg cs => if cs.toList.all (fun v => v.oneCell') = true then .v (.g (cs.toList.map .s)) else .v (.c .junk)
  | .tuple _ => .v (.c .junk)
  | v => .v (.c (.s v))
 | .global _ => .v (.c .junk)
 | .func f => .v (.c (.s (.func (.func f) #[] #[])))
def a1 (x : AV E) (k : A1 E → Mp E) : Mp E := match x with
 | .v (.c a) => k a
 | _ => .fail
def scal (x : AV E) (k : Value → Mp E) : Mp E := match x with
 | .v (.c (.s v)) => k v
 | _ => .fail
def intA (x : AV E) (k : Int → Mp E) : Mp E := match x with
 | .v (.c (.s (.int _ n))) => k n
 | _ => .fail
def cellsOfA : A2 E → List (A1 E)
 | .c .junk => []
 | .c a => [a]
 | .g cs => cs
def ret1 (a : A1 E) : Mp E := .ret (.v (.c a))
def sub {α : Type} (xs : List α) (off n : Nat) : List α := (xs.drop off).take n
def outv (i : TI) (off : Nat) (cs : List (A1 E)) : Mp E :=
 if i.agg = true then (if off + i.size ≤ cs.length then .ret (.v (.g (sub cs off i.size))) else .fail) else match geta cs off with
  | some a => ret1 a
  | none => .fail
def boolsL : List (A1 E) → Option (List Bool)
 | [] => some []
 | .s (.bool b) :: as => match boolsL as with
  | some bs => some (b :: bs)
  | none => none
 | _ => none
def cellsB (f : Nat → Bool) : Nat → Nat → List (A1 E)
 | _, 0 => []
 | i, k + 1 => .s (.bool (f i)) :: cellsB f (i + 1) k
def cellsW (d : Bool) : List (Cell E.T) → List (A1 E)
 | [] => []
 | .s v :: cs => .s v :: cellsW d cs
 | .sl e xs :: cs => (match d with
  | true => .junk
  | false => .imm e xs) :: cellsW d cs
 | .wr _ _ :: cs => .junk :: cellsW d cs
def flat (i : TI) : Bool := i.ck.all fun c => match c with
 | .sc => true
 | _ => false
def cellsV (id i : Nat) : Nat → List (Cell E.T) → List (A1 E)
 | _, [] => []
 | j, .s v :: cs => .s v :: cellsV id i (j + 1) cs
 | j, .sl _ _ :: cs => .hd id i j :: cellsV id i (j + 1) cs
 | j, .wr _ _ :: cs => .junk :: cellsV id i (j + 1) cs
def loadQ (i : TI) (p : A1 E) : Mp E := match p with
 | .bp id off => .get id fun b => match b with
  | .box cs => outv i off cs
  | _ => .fail
 | .ip e x off => match cellsA true (E.cells e x) with
  | some cs => outv i off cs
  | none => .fail
 | .rp id j off => .get id fun b => match b with
  | .row d e xs => outv i off (cellsW d (E.cells e (xs.getD j (E.dflt e))))
  | _ => .fail
 | .ap id lo n x => .get id fun b => match b with
  | .box cs => if i.agg = true then .fail else match boolsL (sub cs lo n) with
   | some bs => need (x < bs.length) (ret1 (.s (.bool (bs.getD x false))))
   | none => .fail
  | _ => .fail
 | .vp id j off => .get id fun b => match b with
  | .rowV e xs => outv i off (cellsV id j 0 (E.cells e (xs.getD j (E.dflt e))))
  | _ => .fail
 | .hp id j off l o => .get id fun b => match b with
  | .rowV e xs => match geta (E.cells e (xs.getD j (E.dflt e))) off with
   | some (.sl e' ys) => need (l < ys.length) (outv i o (cellsW true (E.cells e' (ys.getD l (E.dflt e')))))
   | _ => .fail
  | _ => .fail
 | _ => .fail
def loadA (i : TI) (p : A1 E) : Mp E := match p with
 | .rp id j off => .get id fun b => match b with
  | .row true e xs => match plainC (sub (E.cells e (xs.getD j (E.dflt e))) off i.size) with
   | true => loadQ i (.rp id j off)
   | false => .put id (.row false e xs) (loadQ i (.rp id j off))
  | _ => loadQ i (.rp id j off)
 | p => loadQ i p
def putCells (e : TypeId) (x : E.T e) (off : Nat) (cs : List (Cell E.T)) : Option (E.T e) := E.make e (setls (E.cells e x) off cs)
def setE (E : Env) (e : TypeId) (xs : List (E.T e)) (j off : Nat) (cs : List (Cell E.T)) : List (E.T e) := xs.set j ((putCells e (xs.getD j (E.dflt e)) off cs).getD (xs.getD j (E.dflt e)))
def putE (e : TypeId) (xs : List (E.T e)) (j off : Nat) (cs : List (Cell E.T)) (y : E.T e) : List (E.T e) := match Nat.beq cs.length (E.cells e (xs.getD j (E.dflt e))).length with
 | true => xs.set j y
 | false => setE E e xs j off cs
def storeA (i : TI) (p : A1 E) (v : A2 E) : Mp E :=
 if (cellsOfA v).length = i.size then match p with
 | .bp id off => .get id fun b => match b with
  | .box cs => if off + i.size ≤ cs.length then .put id (.box (setls cs off (cellsOfA v))) (ret1 .junk) else .fail
  | _ => .fail
 | .rp id j off => toCells i.ck (cellsOfA v) true fun cs d' => .get id fun b => match b with
  | .row d e xs => if off + i.size ≤ (E.cells e (xs.getD j (E.dflt e))).length then match putCells e (xs.getD j (E.dflt e)) off cs with
    | some y => .put id (.row (d && d') e (putE e xs j off cs y)) (ret1 .junk)
    | none => .fail
   else .fail
  | _ => .fail
 | .ap id lo n x => match v with
  | .c (.s (.bool q)) => .get id fun b => match b with
   | .box cs => match boolsL (sub cs lo n) with
    | some bs => need (x < bs.length) (.put id (.box (setls cs lo (cellsB (fun i => (bs.set x q).getD i false) 0 bs.length))) (ret1 .junk))
    | none => .fail
   | _ => .fail
  | _ => .fail
 | .hp id j off l o => match plainV (cellsOfA v) with
  | some vs => .get id fun b => match b with
   | .rowV e xs => match geta (E.cells e (xs.getD j (E.dflt e))) off with
    | some (.sl e' ys) => need (l < ys.length) (if o + i.size ≤ (E.cells e' (ys.getD l (E.dflt e'))).length then match putCells e' (ys.getD l (E.dflt e')) o (vs.map .s) with
     | some y => match putCells e (xs.getD j (E.dflt e)) off [.sl e' (putE e' ys l o (vs.map .s) y)] with
      | some x => .put id (.rowV e (putE e xs j off [.sl e' (putE e' ys l o (vs.map .s) y)] x)) (ret1 .junk)
      | none => .fail
     | none => .fail
     else .fail)
    | _ => .fail
   | _ => .fail
  | none => .fail
 | _ => .fail
 else .fail
def rowOf (a : A1 E) (k : (e : TypeId) → List (E.T e) → Mp E) : Mp E := match a with
 | .imm e xs => k e xs
 | .row id => .get id fun b => match b with
  | .row _ e xs => k e xs
  | _ => .fail
 | .win id lo n => .get id fun b => match b with
  | .row _ e xs => k e ((xs.drop lo).take n)
  | _ => .fail
 | _ => .fail
def lenA (i : TI) (a : A1 E) (k : Nat → Mp E) : Mp E := match i.desc with
 | .string => match a with
  | .s (.string s) => k s.size
  | _ => .fail
 | .slice _ => match a with
  | .s (.slice none 0 0) => k 0
  | .imm _ xs => k xs.length
  | .row id => .get id fun b => match b with
   | .row _ _ xs => k xs.length
   | _ => .fail
  | .win id _ n => .get id fun b => match b with
   | .row _ _ _ => k n
   | _ => .fail
  | .rv id => .get id fun b => match b with
   | .rowV _ xs => k xs.length
   | _ => .fail
  | .hd id j off => .get id fun b => match b with
   | .rowV e xs => match geta (E.cells e (xs.getD j (E.dflt e))) off with
    | some (.sl _ ys) => k ys.length
    | _ => .fail
   | _ => .fail
  | _ => .fail
 | _ => .fail
def indexA (e0 : TypeId) (a : A1 E) (j : Int) : Mp E := match a with
 | .imm e xs => need (e = e0) (need (0 ≤ j) (need (j < (xs.length : Int)) (ret1 (.ip e (xs.getD j.toNat (E.dflt e)) 0))))
 | .row id => .get id fun b => match b with
  | .row _ e xs => need (e = e0) (need (0 ≤ j) (need (j < (xs.length : Int)) (ret1 (.rp id j.toNat 0))))
  | _ => .fail
 | .win id lo n => .get id fun b => match b with
  | .row _ e _ => need (e = e0) (need (0 ≤ j) (need (j < (n : Int)) (ret1 (.rp id (lo + j.toNat) 0))))
  | _ => .fail
 | .rv id => .get id fun b => match b with
  | .rowV e xs => need (e = e0) (need (0 ≤ j) (need (j < (xs.length : Int)) (ret1 (.vp id j.toNat 0))))
  | _ => .fail
 | .hd id i off => .get id fun b => match b with
  | .rowV e xs => match geta (E.cells e (xs.getD i (E.dflt e))) off with
   | some (.sl e' ys) => need (e' = e0) (need (0 ≤ j) (need (j < (ys.length : Int)) (ret1 (.hp id i off j.toNat 0))))
   | _ => .fail
  | _ => .fail
 | _ => .fail
def optInt (ts : List (AV E)) (x : Option Operand) (d : Int) (k : Int → Mp E) : Mp E := match x with
 | some o => intA (Aeval ts o) k
 | none => k d
def bounds (ts : List (AV E)) (lo hi : Option Operand) (n : Nat) (k : Nat → Nat → Mp E) : Mp E :=
 optInt ts lo 0 fun l => optInt ts hi n fun h => need (0 ≤ l) (need (l ≤ h) (need (h ≤ (n : Int)) (k l.toNat h.toNat)))
def sliceA (ts : List (AV E)) (i : TI) (a : A1 E) (lo hi : Option Operand) : Mp E := match i.desc with
 | .string => match a with
  | .s (.string s) => bounds ts lo hi s.size fun l h => ret1 (.s (.string (s.extract l h)))
  | _ => .fail
 | .slice e0 => info E e0 fun _ => match a with
  | .imm e xs => need (e = e0) (bounds ts lo hi xs.length fun l h => ret1 (.imm e ((xs.take h).drop l)))
  | .row id => .get id fun b => match b with
   | .row _ e xs => need (e = e0) (bounds ts lo hi xs.length fun l h => ret1 (.win id l (h - l)))
   | _ => .fail
  | _ => .fail
 | _ => .fail
def Env.zeroEl (E : Env) (i : TI) (e : TypeId) : Option (E.T e) :=
 E.make e (List.zipWith (fun c z => match c with | .sc => Cell.s z | .sl e' => Cell.sl e' []) i.ck (match i.zero with | some z => z.cells.toList | none => []))
def chunk (E : Env) (e : TypeId) (i : TI) : Nat → List (A1 E) → Bool → (List (E.T e) → Bool → Mp E) → Mp E
 | 0, _, d, k => k [] d
 | n + 1, as, d, k => toCells i.ck (as.take i.size) d fun cs d => match E.make e cs with
  | some x => chunk E e i n (as.drop i.size) d fun xs d => k (x :: xs) d
  | none => .fail
def zeroA (z : Value) : List (A1 E) := z.cells.toList.map .s
def fillA (place : Nat → Option (Nat × Nat)) (cells : List (A1 E)) : List (Nat × A2 E) → Option (List (A1 E))
 | [] => some cells
 | (i, v) :: rest => match place i with
  | none => none
  | some (off, size) => if (cellsOfA v).length = size ∧ off + size ≤ cells.length then fillA place (setls cells off (cellsOfA v)) rest else none
def a2s (ts : List (AV E)) : List (Nat × Operand) → Option (List (Nat × A2 E))
 | [] => some []
 | (i, x) :: r => match Aeval ts x with
  | .v a => match a2s ts r with
   | some l => some ((i, a) :: l)
   | none => none
  | _ => none
def fieldAt (E : Env) (i : TI) (f : Nat) (k : Field → TI → Mp E) : Mp E := match i.desc with
 | .struct fs => match geta fs.toList f with
  | some fd => info E fd.type fun j => k fd j
  | none => .fail
 | _ => .fail
def addA (o : Nat) (a : A1 E) : Mp E := match a with
 | .bp id off => ret1 (.bp id (off + o))
 | .ip e x off => ret1 (.ip e x (off + o))
 | .rp id j off => .get id fun b => match b with
  | .row _ _ _ => ret1 (.rp id j (off + o))
  | _ => .fail
 | .vp id j off => .get id fun b => match b with
  | .rowV _ _ => ret1 (.vp id j (off + o))
  | _ => .fail
 | .hp id i off j q => .get id fun b => match b with
  | .rowV e xs => match geta (E.cells e (xs.getD i (E.dflt e))) off with
   | some (.sl _ _) => ret1 (.hp id i off j (q + o))
   | _ => .fail
  | _ => .fail
 | _ => .fail
def apA (k d : Nat) (a : A1 E) : Mp E := match a with
 | .bp id off => ret1 (.ap id off k d)
 | .ap id lo n x => ret1 (.ap id lo n (x + d))
 | _ => .fail
def behind (n : Nat) (i : TI) (e : TypeId) (d : Bool) (xs : List (E.T e)) (b : A1 E) : Mp E := match b with
 | .s (.string s) => match E.bytes e (bytesOf s) with
  | some ys => need (xs.length + ys.length ≤ maxN) (.put n (.row d e (xs ++ ys)) (ret1 (.row n)))
  | none => .fail
 | .s (.int _ l) => match E.bytes e (List.replicate l.toNat 0) with
  | some ys => need (0 ≤ l) (need (xs.length + ys.length ≤ maxN) (.put n (.row d e (xs ++ ys)) (ret1 (.row n))))
  | none => .fail
 | .row id => .get id fun q => match q with
  | .row d' e' ys => if h : e' = e then
    (if flat i = true then need ((xs.length + ys.length) * i.bytes ≤ maxN) (.put n (.row d e (xs ++ (h ▸ ys))) (ret1 (.row n)))
    else need ((xs.length + ys.length) * i.bytes ≤ maxN) (.del id (.put n (.row (d && d') e (xs ++ (h ▸ ys))) (ret1 (.row n)))))
   else .fail
  | _ => .fail
 | .imm e' ys => if h : e' = e then need ((xs.length + ys.length) * i.bytes ≤ maxN) (.put n (.row (d && flat i) e (xs ++ (h ▸ ys))) (ret1 (.row n))) else .fail
 | .win id lo k => .get id fun q => match q with
  | .row d' e' ys => if h : e' = e then
    (if flat i = true then need ((xs.length + k) * i.bytes ≤ maxN) (.put n (.row d e (xs ++ (((h ▸ ys : List (E.T e)).drop lo).take k))) (ret1 (.row n))) else match d' with
     | false => need ((xs.length + k) * i.bytes ≤ maxN) (.put n (.row false e (xs ++ (((h ▸ ys : List (E.T e)).drop lo).take k))) (ret1 (.row n)))
     | true => .fail)
   else .fail
  | _ => .fail
 | _ => .fail
def appendA (n : Nat) (i : TI) (e : TypeId) (a b : A1 E) : Mp E :=
 match a with
 | .s (.slice none 0 0) => behind n i e true [] b
 | .row id => .get id fun q => match q with
  | .row d e' xs => if h : e' = e then .del id (behind n i e d (h ▸ xs) b) else .fail
  | _ => .fail
 | _ => .fail
def appendV (n : Nat) (i : TI) (e : TypeId) (a b : A1 E) : Mp E := match b with
 | .win id _ _ => match flat i with
  | true => appendA n i e a b
  | false => .get id fun q => match q with
   | .row true e' ys => .put id (.row false e' ys) (appendA n i e a b)
   | _ => appendA n i e a b
 | _ => appendA n i e a b
def copyL {α : Type} (xs : List α) (lo k : Nat) (ys : List α) : List α := xs.take lo ++ ys.take k ++ xs.drop (lo + min k ys.length)
def copyA (i : TI) (e : TypeId) (a b : A1 E) : Mp E := match a with
 | .win id lo k => rowOf b fun e' ys => if h : e' = e then (if flat i = true ∧ i.size = 1 then .get id fun q => match q with
   | .row d e0 xs => if h0 : e0 = e then .put id (.row d e (copyL (h0 ▸ xs) lo k (h ▸ ys))) (ret1 (.s (.int .i64 (min k ys.length : Nat)))) else .fail
   | _ => .fail
  else .fail) else .fail
 | _ => .fail
def copyR (i : TI) (e : TypeId) (a b : A1 E) : Mp E := match a with
 | .row id => .get id fun q => match q with
  | .row _ _ xs => copyA i e (.win id 0 xs.length) b
  | _ => .fail
 | a => copyA i e a b
def evBuiltin (n : Nat) (ts : List (AV E)) (b : Builtin) (args : List Operand) (tys : List TypeId) : Mp E :=
 match b, args, tys with
 | .len, [x], t :: _ => info E t fun i => a1 (Aeval ts x) fun a => lenA i a fun m => ret1 (.s (.int .i64 m))
 | .append, [x, y], [t, t'] => info E t fun i => match i.desc with
  | .slice e => info E e fun j => info E t' fun i' => a1 (Aeval ts x) fun a => a1 (Aeval ts y) fun b =>
   if t = t' then (match b with
    | .s (.string _) => .fail
    | .s (.int _ _) => .fail
    | .s (.slice none 0 0) => appendV n j e a (.imm e [])
    | _ => appendV n j e a b) else (match i'.desc, b with
    | .string, .s (.string _) => appendA n j e a b
    | .int _, .s (.int _ _) => appendA n j e a b
    | _, _ => .fail)
  | _ => .fail
 | .min, [x, y], _ => scal (Aeval ts x) fun v => scal (Aeval ts y) fun u => minV v u fun r => ret1 (.s r)
 | .max, [x, y], _ => scal (Aeval ts x) fun v => scal (Aeval ts y) fun u => maxV v u fun r => ret1 (.s r)
 | .copy, [x, y], [t, _] => info E t fun i => match i.desc with
  | .slice e => info E e fun j => a1 (Aeval ts x) fun a => a1 (Aeval ts y) fun b => copyR j e a b
  | _ => .fail
 | _, _, _ => .fail
def callA (n : Nat) (en : Entry E) (as : List (AV E)) : Mp E :=
 handIns as fun ps => need ((ptrIds as).length ≤ 1) <| .call (en.F ps) fun r =>
  if (freshRV r.rv && plainU r.upd) = true then takeBack as r.upd (getRV n r.rv fun v => .ret v) else seenK as fun is => dels is (takeBack as r.upd (getRV n r.rv fun v => .ret v))
def capQ : List CK → List (A1 E) → Option (List (Cell E.T))
 | [], [] => some []
 | .sc :: ks, .s v :: as => match capQ ks as with
  | some cs => some (.s v :: cs)
  | none => none
 | .sl e :: ks, .s (.slice none 0 0) :: as => match capQ ks as with
  | some cs => some (.sl e [] :: cs)
  | none => none
 | .sl _ :: ks, .imm e xs :: as => match capQ ks as with
  | some cs => some (.sl e xs :: cs)
  | none => none
 | _, _ => none
def roL : List (Sigma E.T) → List (AV E)
 | [] => []
 | q :: xs => .v (.c (.ip q.1 q.2 0)) :: roL xs
def capL : List (AV E) → List TypeId → Option (List (Nat × TypeId))
 | [], [] => some []
 | .v (.c (.bp id 0)) :: as, e :: es => match capL as es with
  | some l => some ((id, e) :: l)
  | none => none
 | _, _ => none
def hasFn : List (AV E) → Bool
 | [] => false
 | .v (.c (.fn _ _)) :: _ => true
 | _ :: as => hasFn as
def capV : List (Nat × TypeId) → (List (Sigma E.T) → Mp E) → Mp E
 | [], k => k []
 | p :: ps, k => .get p.1 fun b => match b with
  | .box as => info E p.2 fun i => match capQ i.ck as with
   | some cs => match E.make p.2 cs with
    | some x => match Nat.beq cs.length i.size with
     | true => capV ps fun xs => k (⟨p.2, x⟩ :: xs)
     | false => .fail
    | none => .fail
   | none => .fail
  | _ => .fail
def handK : AV E → (P2 E → Mp E) → Mp E
 | .v (.c (.fn g ids)), k => capV ids fun xs => k (.v (.fn g xs))
 | .v (.c (.bp _ _)), _ => .fail
 | .v a, k => handIn a k
 | _, _ => .fail
def handKs : List (AV E) → (List (P2 E) → Mp E) → Mp E
 | [], k => k []
 | a :: as, k => handK a fun p => handKs as fun ps => k (p :: ps)
def callK (n : Nat) (en : Entry E) (as : List (AV E)) : Mp E :=
 handKs as fun ps => .call (en.F ps) fun r => match freshRV r.rv with
  | true => getRV n r.rv fun v => .ret v
  | false => .fail
def memP (j l : Nat) : List (Nat × Nat) → Bool
 | [] => false
 | p :: ps => (Nat.beq p.1 j && Nat.beq p.2 l) || memP j l ps
def cellsA2 : A2 E → List (A1 E)
 | .c a => [a]
 | .g as => as
def handWL (W : List (Nat × Nat)) (j : Nat) : Nat → List (A1 E) → (List (Cell E.T) → Mp E) → Mp E
 | _, [], k => k []
 | l, a :: as, k => match memP j l W, a with
  | true, .row id => .get id fun b => match b with
   | .row true e xs => handWL W j (l + 1) as fun cs => k (.wr e xs :: cs)
   | _ => .fail
  | true, .s v => handWL W j (l + 1) as fun cs => k (.s v :: cs)
  | true, _ => .fail
  | false, a => seeCell a fun c => handWL W j (l + 1) as fun cs => k (c :: cs)
def handW (W : List (Nat × Nat)) (j : Nat) (a : A2 E) (k : P2 E → Mp E) : Mp E := match a with
 | .c a => handWL W j 0 [a] fun cs => match cs with
  | [c] => k (.v (.c c))
  | _ => .fail
 | .g as => handWL W j 0 as fun cs => k (.g cs)
def handWs (W : List (Nat × Nat)) : Nat → List (AV E) → (List (P2 E) → Mp E) → Mp E
 | _, [], k => k []
 | j, .v a :: as, k => handW W j a fun p => handWs W (j + 1) as fun ps => k (p :: ps)
 | _, _, _ => .fail
def wrIdsL (W : List (Nat × Nat)) (j : Nat) : Nat → List (A1 E) → List Nat
 | _, [] => []
 | l, a :: as => match memP j l W with
  | true => seenA a ++ wrIdsL W j (l + 1) as
  | false => wrIdsL W j (l + 1) as
def rdIdsL (W : List (Nat × Nat)) (j : Nat) : Nat → List (A1 E) → List Nat
 | _, [] => []
 | l, a :: as => match memP j l W with
  | true => rdIdsL W j (l + 1) as
  | false => seenA a ++ rdIdsL W j (l + 1) as
def wrIds (W : List (Nat × Nat)) : Nat → List (AV E) → List Nat
 | _, [] => []
 | j, .v a :: as => wrIdsL W j 0 (cellsA2 a) ++ wrIds W (j + 1) as
 | j, .tup _ :: as => wrIds W (j + 1) as
def rdIds (W : List (Nat × Nat)) : Nat → List (AV E) → List Nat
 | _, [] => []
 | j, .v a :: as => rdIdsL W j 0 (cellsA2 a) ++ rdIds W (j + 1) as
 | j, .tup _ :: as => rdIds W (j + 1) as
def memI (i : Nat) : List Nat → Bool
 | [] => false
 | j :: js => Nat.beq j i || memI i js
def apartI : List Nat → List Nat → Bool
 | [], _ => true
 | i :: is, js => !memI i js && apartI is js
def onceI : List Nat → Bool
 | [] => true
 | i :: is => !memI i is && onceI is
def takeWL (W : List (Nat × Nat)) (j : Nat) : Nat → List (A1 E) → List (Cell E.T) → Mp E → Mp E
 | l, .row id :: as, c :: cs, k => match memP j l W, c with
  | true, .sl e xs => .get id fun b => match b with
   | .row _ e0 _ => match decEq e e0 with
    | isTrue _ => .put id (.row true e xs) (takeWL W j (l + 1) as cs k)
    | isFalse _ => .fail
   | _ => .fail
  | true, .s _ => .del id (takeWL W j (l + 1) as cs k)
  | true, _ => .fail
  | false, _ => takeWL W j (l + 1) as cs k
 | l, _ :: as, _ :: cs, k => takeWL W j (l + 1) as cs k
 | _, _, _, k => k
def takeW (W : List (Nat × Nat)) : Nat → List (AV E) → List (List (Cell E.T)) → Mp E → Mp E
 | j, .v a :: as, u :: us, k => takeWL W j 0 (cellsA2 a) u (takeW W (j + 1) as us k)
 | j, .tup _ :: as, _ :: us, k => takeW W (j + 1) as us k
 | _, _, _, k => k
def callW0 (n : Nat) (en : Entry E) (as : List (AV E)) : Mp E :=
 match onceI (wrIds en.wr 0 as), apartI (wrIds en.wr 0 as) (rdIds en.wr 0 as) with
 | true, true => handWs en.wr 0 as fun ps => .call (en.F ps) fun r => match freshRV r.rv with
  | true => takeW en.wr 0 as r.upd (getRV n r.rv fun v => .ret v)
  | false => .fail
 | _, _ => .fail
def handHs (p : Nat) (c : Cell E.T) : Nat → List (AV E) → (List (P2 E) → Mp E) → Mp E
 | _, [], k => k []
 | j, a :: as, k => match Nat.beq j p, a with
  | true, _ => handHs p c (j + 1) as fun ps => k (.v (.c c) :: ps)
  | false, .v (.c a) => seeCell a fun c' => handHs p c (j + 1) as fun ps => k (.v (.c c') :: ps)
  | false, _ => .fail
def callH (n : Nat) (en : Entry E) (as : List (AV E)) (p id i off : Nat) : Mp E :=
 match apartI [id] (rdIds [(p, 0)] 0 as) with
 | true => .get id fun b => match b with
  | .rowV e0 xs => match geta (E.cells e0 (xs.getD i (E.dflt e0))) off with
   | some (.sl e ys) => handHs p (.wr e ys) 0 as fun ps => .call (en.F ps) fun r => match freshRV r.rv, geta r.upd p with
    | true, some [.sl e' ys'] => match decEq e' e with
     | isTrue _ => match putCells e0 (xs.getD i (E.dflt e0)) off [.sl e' ys'] with
      | some x => .put id (.rowV e0 (putE e0 xs i off [.sl e' ys'] x)) (getRV n r.rv fun v => .ret v)
      | none => .fail
     | isFalse _ => .fail
    | _, _ => .fail
   | _ => .fail
  | _ => .fail
 | false => .fail
def callW (n : Nat) (en : Entry E) (as : List (AV E)) : Mp E := match en.wr with
 | [(p, 0)] => match geta as p with
  | some (.v (.c (.hd id i off))) => callH n en as p id i off
  | _ => callW0 n en as
 | _ => callW0 n en as
structure Pd where
 t : Tmp
 id : Nat
 i : Nat
 off : Nat
def handPs (p : Nat) (c : Cell E.T) : Nat → List (AV E) → (List (P2 E) → Mp E) → Mp E
 | _, [], k => k []
 | j, a :: as, k => match Nat.beq j p, a with
  | true, _ => handPs p c (j + 1) as fun ps => k (.v (.c c) :: ps)
  | false, .v (.c (.s v)) => handPs p c (j + 1) as fun ps => k (.v (.c (.s v)) :: ps)
  | false, _ => .fail
def callP (n : Nat) (en : Entry E) (as : List (AV E)) (p : Nat) (pd : Pd) : Mp E :=
 .get pd.id fun b => match b with
  | .row true e0 xs => match geta (E.cells e0 (xs.getD pd.i (E.dflt e0))) pd.off with
   | some (.sl e ys) => handPs p (.wr e ys) 0 as fun ps => .call (en.F ps) fun r => match freshRV r.rv, geta r.upd p with
    | true, some [.sl e' ys'] => match putCells e0 (xs.getD pd.i (E.dflt e0)) pd.off [.sl e' ys'] with
     | some x => .put pd.id (.row true e0 (putE e0 xs pd.i pd.off [.sl e' ys'] x)) (getRV n r.rv fun v => .ret v)
     | none => .fail
    | _, _ => .fail
   | _ => .fail
  | _ => .fail
def convS (i : TI) (a : A1 E) : Mp E := match i.desc with
 | .slice e => info E e fun q => match q.desc with
  | .int .u8 => match a with
   | .s (.slice none 0 0) => ret1 (.s (.string ByteArray.empty))
   | a => seeCell a fun c => match c with
    | .sl e' ys => need (e' = e) (match E.ints e' ys with
     | some ns => ret1 (.s (.string (strOf ns)))
     | none => .fail)
    | _ => .fail
  | _ => .fail
 | _ => .fail
def convB (n : Nat) (i : TI) (e : TypeId) (s : ByteArray) : Mp E := info E e fun q => match i.desc, q.desc, E.bytes e (bytesOf s) with
 | .string, .int .u8, some ys => need (s.size ≤ maxN) (.put n (.row true e ys) (ret1 (.row n)))
 | _, _, _ => .fail
def convA (n : Nat) (i j : TI) (a : A1 E) : Mp E := match j.desc with
 | .int k => match a with
  | .s (.int _ m) => ret1 (.s (.int k (k.wrap m)))
  | _ => .fail
 | .string => match a with
  | .s (.string s) => ret1 (.s (.string s))
  | .s (.int _ m) => ret1 (.s (.string (Utf8.encode m)))
  | a => convS i a
 | .slice e => match a with
  | .s (.string s) => convB n i e s
  | _ => .fail
 | _ => .fail
def sameOp : Operand → Operand → Bool
 | .tmp a, .tmp b => a == b
 | .const (.int p a), .const (.int q b) => p == q && a == b
 | _, _ => false
def evOp (C : FuncId → Option (Entry E)) (n : Nat) (ts : List (AV E)) (o : Op) : Mp E :=
 match o with
 | .move x | .assign x => .ret (Aeval ts x)
 | .pick c a b => scal (Aeval ts c) fun v => match v with
  | .bool q => .cond q (.ret (Aeval ts a)) (.ret (Aeval ts b))
  | _ => .fail
 | .alloc t => info E t fun i => match i.zero with
  | some z => .put n (.box (zeroA z)) (ret1 (.bp n 0))
  | none => .fail
 | .box t x => match Aeval ts x with
  | .v (.c .junk) => .fail
  | .v a => .put n (.box (cellsOfA a)) (ret1 (.bp n 0))
  | _ => .fail
 | .build t parts => info E t fun i => match i.desc, i.zero, a2s ts parts.toList with
  | .struct _, some z, some ps => match fillA (fun f => match i.desc with
    | .struct fs => match geta fs.toList f with
     | some fd => match E.info fd.type with
      | some j => some (fd.offset, j.size)
      | none => none
     | none => none
    | _ => none) (zeroA z) ps with
   | some cs => .ret (.v (.g cs))
   | none => .fail
  | _, _, _ => .fail
 | .buildSlice t m parts => info E t fun i => match i.desc, a2s ts parts.toList with
  | .slice e, some ps => info E e fun j => match j.zero with
   | some z => if m * j.size ≤ 16777216 then match fillA (fun f => some (f * j.size, j.size)) (List.flatten (List.replicate m (zeroA z))) ps with
    | some cs => chunk E e j m cs true fun xs d => .put n (.row d e xs) (ret1 (.row n))
    | none => .fail
    else .fail
   | none => .fail
  | _, _ => .fail
 | .load t x => info E t fun i => a1 (Aeval ts x) fun p => loadA i p
 | .store t x y => info E t fun i => a1 (Aeval ts x) fun p => match Aeval ts y with
  | .v a => storeA i p a
  | _ => .fail
 | .nilCheck x => a1 (Aeval ts x) fun a => addA 0 a
 | .binOp op t x y _ => match Aeval ts x, Aeval ts y with
  | .v (.g as), .v (.g bs) => eqA op t as bs fun r => ret1 (.s r)
  | v, u => scal v fun v => scal u fun u => binV op t v u fun r => ret1 (.s r)
 | .unOp op _ x => scal (Aeval ts x) fun v => unV op v fun r => ret1 (.s r)
 | .convert src dst x => info E src fun i => info E dst fun j => a1 (Aeval ts x) fun a => convA n i j a
 | .makeSlice t x y => info E t fun i => match i.desc with
  | .slice e => info E e fun j => intA (Aeval ts x) fun l => intA (Aeval ts y) fun c => match E.zeroEl j e with
   | some z => need (0 ≤ l) ((if sameOp x y = true then (fun k => k) else need (l ≤ c)) (need (c.toNat * j.bytes ≤ maxN) (.put n (.row true e (List.replicate l.toNat z)) (ret1 (.row n)))))
   | none => .fail
  | _ => .fail
 | .slice t x lo hi none => info E t fun i => a1 (Aeval ts x) fun a => sliceA ts i a lo hi
 | .fieldAddr t x f => info E t fun i => fieldAt E i f fun fd _ => a1 (Aeval ts x) fun a => addA fd.offset a
 | .field t x f => info E t fun i => fieldAt E i f fun fd j => match Aeval ts x with
  | .v (.g cs) => outv j fd.offset cs
  | _ => .fail
 | .indexAddr t x y => info E t fun i => match i.desc with
  | .slice e0 => info E e0 fun _ => a1 (Aeval ts x) fun a => intA (Aeval ts y) fun j => indexA e0 a j
  | .array l e0 => info E e0 fun i0 => a1 (Aeval ts x) fun a => intA (Aeval ts y) fun j => need (0 ≤ j) (need (j < (l : Int)) (apA (l * i0.size) (j.toNat * i0.size) a))
  | _ => .fail
 | .index t x y => info E t fun i => match i.desc with
  | .string => a1 (Aeval ts x) fun a => intA (Aeval ts y) fun j => match a with
   | .s (.string s) => need (0 ≤ j) (need (j < (s.size : Int)) (ret1 (.s (.int .u8 (bt s j)))))
   | _ => .fail
  | _ => .fail
 | .extract x j => match Aeval ts x with
  | .tup vs => match geta vs j with
   | some a => .ret (.v a)
   | none => .fail
  | _ => .fail
 | .call c => match c.callee with
  | .builtin b => evBuiltin n ts b c.args.toList c.argTypes.toList
  | .value (.func f) => match C f with
   | some en => match en.wr with
    | [] => match hasFn (c.args.toList.map (Aeval ts)) with
     | true => callK n en (c.args.toList.map (Aeval ts))
     | false => callA n en (c.args.toList.map (Aeval ts))
    | _ :: _ => callW n en (c.args.toList.map (Aeval ts))
   | none => .fail
  | .value x => match Aeval ts x with
   | .v (.c (.fnp g xs)) => match C g with
    | some en => callA n en (c.args.toList.map (Aeval ts) ++ roL xs)
    | none => .fail
   | _ => .fail
  | _ => .fail
 | .makeFunc (.func g) first caps => match first.toList, C g with
  | [], some en => match capL (caps.toList.map (Aeval ts)) en.caps with
   | some ids => ret1 (.fn g ids)
   | none => .fail
  | _, _ => .fail
 | _ => .fail
structure St (E : Env) where
 ts : List (AV E)
 m : Mem E
 n : Nat
def putT (ts : List (AV E)) (d : Option Tmp) (v : AV E) : List (AV E) := match d with
 | some t => setl ts t v
 | none => ts
def putK {R : Type} (ts : List (AV E)) (d : Option Tmp) (v : AV E) (k : List (AV E) → R) : R := match d with
 | some t => forceAV v fun v => setlK ts t v k
 | none => k ts
def evOper {R : Type} (C : FuncId → Option (Entry E)) (ops : List Oper) (o : Oper) (n : Nat) (ts : List (AV E)) (m : Mem E) (K : List (AV E) → Mem E → Option R) : Option R :=
 match o.guard with
 | none => (evOp C n ts o.op).run m fun v m => putK ts o.dst v fun ts => K ts m
 | some (j, want) => match geta ops j with
  | some oj => match oj.dst with
   | some t => match geta ts t with
    | some (.v (.c (.s (.bool b)))) =>
     if b = want then setlK ts t (.v (.c (.s (.bool want)))) fun ts => (evOp C n ts o.op).run m fun v m => putK ts o.dst v fun ts => K ts m
     else setlK ts t (.v (.c (.s (.bool (!want))))) fun ts => putK ts o.dst (.tup []) fun ts => K ts m
    | some (.tup []) => putK ts o.dst (.tup []) fun ts => K ts m
    | _ => none
   | none => none
  | none => none
def forceN {R : Type} (n : Nat) (k : Nat → R) : R := match n with
 | 0 => k 0
 | m + 1 => k (m + 1)
def isTmp (t : Tmp) : Operand → Bool
 | .tmp u => Nat.beq u t
 | _ => false
def posW (W : List (Nat × Nat)) (args : List Operand) (t : Tmp) : Option Nat := match W with
 | [(p, 0)] => match geta args p with
  | some x => match isTmp t x with
   | true => some p
   | false => none
  | none => none
 | _ => none
def wantsW (C : FuncId → Option (Entry E)) (t : Tmp) : List Oper → Bool
 | [] => false
 | o :: rest => match o.op with
  | .call c => match c.callee with
   | .value (.func f) => match C f with
    | some en => match posW en.wr c.args.toList t with
     | some _ => true
     | none => wantsW C t rest
    | none => wantsW C t rest
   | _ => wantsW C t rest
  | _ => wantsW C t rest
def pdOf (C : FuncId → Option (Entry E)) (o : Oper) (rest : List Oper) (ts : List (AV E)) (m : Mem E) : Option Pd := match o.guard, o.dst, o.op with
 | none, some t, .load ty x => match Aeval ts x with
  | .v (.c (.rp id i off)) => match look m id with
   | some (.row true e xs) => match geta (E.cells e (xs.getD i (E.dflt e))) off with
    | some (.sl _ _) => match E.info ty with
     | some q => match q.agg, wantsW C t rest, geta ts t with
      | false, true, some _ => some ⟨t, id, i, off⟩
      | _, _, _ => none
     | none => none
    | _ => none
   | _ => none
  | _ => none
 | _, _, _ => none
inductive WK (E : Env) | no | w (f : FuncId) (en : Entry E) (c : Go.Call) | p (f : FuncId) (en : Entry E) (c : Go.Call) (q : Nat) (p : Pd) | mv (x : Operand) (p : Pd)
def wrOp (C : FuncId → Option (Entry E)) (o : Oper) (pd : Option Pd) : WK E := match o.guard with
 | some _ => .no
 | none => match o.op with
  | .move x => match pd with
   | some p => match o.dst with
    | some t => match Nat.beq t p.t with
     | true => .no
     | false => .mv x p
    | none => .no
   | none => .no
  | .call c => match c.callee with
   | .value (.func f) => match C f with
    | some en => match en.wr with
     | [] => .no
     | _ :: _ => match pd with
      | some p => match posW en.wr c.args.toList p.t with
       | some q => .p f en c q p
       | none => .w f en c
      | none => .w f en c
    | none => .no
   | _ => .no
  | _ => .no
def evOps {R : Type} (C : FuncId → Option (Entry E)) (ops : List Oper) : List Oper → Nat → List (AV E) → Mem E → Option Pd → (List (AV E) → Mem E → Nat → Option R) → Option R
 | [], n, ts, m, _, K => K ts m n
 | o :: rest, n, ts, m, pd, K => match pdOf C o rest ts m with
  | some p => putK ts o.dst (.v (.c .junk)) fun ts => forceN (n + wide) fun n => evOps C ops rest n ts m (some p) K
  | none => match wrOp C o pd with
   | .mv x p => putK ts o.dst (Aeval ts x) fun ts => forceN (n + wide) fun n => evOps C ops rest n ts m (some p) K
   | .w _ en c => (callW n en (c.args.toList.map (Aeval ts))).run m fun v m => putK ts o.dst v fun ts => forceN (n + wide) fun n => evOps C ops rest n ts m none K
   | .p _ en c q p => (callP n en (c.args.toList.map (Aeval ts)) q p).run m fun v m => putK ts o.dst v fun ts => forceN (n + wide) fun n => evOps C ops rest n ts m none K
   | .no => evOper C ops o n ts m fun ts m => forceN (n + wide) fun n => evOps C ops rest n ts m none K
def pureOp : Op → Bool
 | .move _ | .assign _ | .pick _ _ _ | .load _ _ | .nilCheck _ | .binOp _ _ _ _ _ | .unOp _ _ _ | .convert _ _ _ | .fieldAddr _ _ _ | .field _ _ _ | .indexAddr _ _ _ | .index _ _ _ | .extract _ _ | .build _ _ | .makeFunc _ _ _ => true
 | .slice _ _ _ _ none => true
 | .call c => match c.callee with
  | .builtin .len => true
  | .builtin .min => true
  | .builtin .max => true
  | .value _ => true
  | _ => false
 | _ => false
def evOperD {R : Type} (C : FuncId → Option (Entry E)) (ops : List Oper) (o : Oper) (n : Nat) (m : Mem E) (ts : List (AV E)) (K : List (AV E) → Option R) : Option R :=
 match pureOp o.op with
 | false => none
 | true => match o.guard with
  | none => (evOp C n ts o.op).runD m fun v => putK ts o.dst v K
  | some (j, want) => match geta ops j with
   | some oj => match oj.dst with
    | some t => match geta ts t with
     | some (.v (.c (.s (.bool b)))) =>
      if b = want then setlK ts t (.v (.c (.s (.bool want)))) fun ts => (evOp C n ts o.op).runD m fun v => putK ts o.dst v K
      else setlK ts t (.v (.c (.s (.bool (!want))))) fun ts => putK ts o.dst (.tup []) K
     | some (.tup []) => putK ts o.dst (.tup []) K
     | _ => none
    | none => none
   | none => none
def evOpsD {R : Type} (C : FuncId → Option (Entry E)) (ops : List Oper) (n : Nat) (m : Mem E) : List Oper → List (AV E) → (List (AV E) → Option R) → Option R
 | [], ts, K => K ts
 | o :: rest, ts, K => evOperD C ops o n m ts fun ts => evOpsD C ops n m rest ts K
def minF : Nat → List (Nat × TypeId) → Nat
 | a, [] => a
 | a, p :: ps => match Nat.ble a p.1 with
  | true => minF a ps
  | false => minF p.1 ps
def maxF : Nat → List (Nat × TypeId) → Nat
 | a, [] => a
 | a, p :: ps => match Nat.ble p.1 a with
  | true => maxF a ps
  | false => maxF p.1 ps
def idsF : List (Nat × TypeId) → List Nat
 | [] => []
 | p :: ps => List.range' (minF p.1 ps) (maxF p.1 ps + 1 - minF p.1 ps)
def refA : A1 E → List Nat
 | .fn _ ids => idsF ids
 | .row i => [i]
 | .win i _ _ => [i]
 | .bp i _ => [i]
 | .rp i _ _ => [i]
 | .ap i _ _ _ => [i]
 | .rv i => [i]
 | .vp i _ _ => [i]
 | .hd i _ _ => [i]
 | .hp i _ _ _ _ => [i]
 | _ => []
def refL : List (A1 E) → List Nat
 | [] => []
 | a :: as => refA a ++ refL as
def refA2 : A2 E → List Nat
 | .c a => refA a
 | .g cs => refL cs
def refL2 : List (A2 E) → List Nat
 | [] => []
 | a :: as => refA2 a ++ refL2 as
def refV : AV E → List Nat
 | .v a => refA2 a
 | .tup vs => refL2 vs
def refB : Blk E → List Nat
 | .box cs => refL cs
 | .row _ _ _ => []
 | .rowV _ _ => []
def allLt (n : Nat) : List Nat → Bool
 | [] => true
 | i :: is => match Nat.blt i n with
  | true => allLt n is
  | false => false
def allGe (n : Nat) : List Nat → Bool
 | [] => true
 | i :: is => match Nat.ble n i with
  | true => allGe n is
  | false => false
def lowRd (n : Nat) (m : Mem E) : List Nat → Bool
 | [] => true
 | i :: is => match Nat.blt i n with
  | true => match look m i with
   | some b => match allLt n (refB b) with
    | true => lowRd n m is
    | false => false
   | none => lowRd n m is
  | false => false
def lowOps (ts : List (AV E)) (n : Nat) : List Operand → Bool
 | [] => true
 | x :: xs => match allLt n (refV (Aeval ts x)) with
  | true => lowOps ts n xs
  | false => false
def posts (m : Mem E) : List Nat → List (Nat × List Nat)
 | [] => []
 | i :: is => (i, match look m i with
  | some b => refB b
  | none => []) :: posts m is
def postsLt (n : Nat) : List (Nat × List Nat) → Bool
 | [] => true
 | p :: ps => match Nat.blt p.1 n with
  | true => match allLt n p.2 with
   | true => postsLt n ps
   | false => false
  | false => false
structure Lg where
 rs : List Nat
 ws : List Nat
 n : Nat
 rf : List Nat
 pb : List (Nat × List Nat)
def oneE {R : Type} (C : FuncId → Option (Entry E)) (o : Oper) (n : Nat) (ts : List (AV E)) (m : Mem E) (K : List (AV E) → Mem E → Nat → Lg → Option R) : Option R :=
 (evOp C n ts o.op).runE m [] [] fun v m' rs ws => match ws with
  | [] => match pureOp o.op, allLt n (refV v) with
   | true, true => putK ts o.dst v fun ts => K ts m' n ⟨rs, [], n, refV v, []⟩
   | _, _ => none
  | x :: ws => match lowOps ts n o.op.operands.toList with
   | true => match lowRd n m rs with
    | true => match allLt (n + wide) (refV v) with
     | true => match postsLt (n + wide) (posts m' (x :: ws)) with
      | true => putK ts o.dst v fun ts => forceN (n + wide) fun n' => K ts m' n' ⟨rs, x :: ws, n, refV v, posts m' (x :: ws)⟩
      | false => none
     | false => none
    | false => none
   | false => none
def evOperE {R : Type} (C : FuncId → Option (Entry E)) (ops : List Oper) (o : Oper) (n : Nat) (ts : List (AV E)) (m : Mem E) (K : List (AV E) → Mem E → Nat → Lg → Option R) : Option R :=
 match o.guard with
 | none => oneE C o n ts m K
 | some (j, want) => match geta ops j with
  | some oj => match oj.dst with
   | some t => match geta ts t with
    | some (.v (.c (.s (.bool b)))) =>
     if b = want then setlK ts t (.v (.c (.s (.bool want)))) fun ts => oneE C o n ts m K
     else setlK ts t (.v (.c (.s (.bool (!want))))) fun ts => putK ts o.dst (.tup []) fun ts => K ts m n ⟨[], [], n, [], []⟩
    | some (.tup []) => putK ts o.dst (.tup []) fun ts => K ts m n ⟨[], [], n, [], []⟩
    | _ => none
   | none => none
  | none => none
def evOpsE {R : Type} (C : FuncId → Option (Entry E)) (ops : List Oper) : List Oper → Nat → List (AV E) → Mem E → (List (AV E) → Mem E → Nat → List (Lg) → Option R) → Option R
 | [], n, ts, m, K => K ts m n []
 | o :: rest, n, ts, m, K => evOperE C ops o n ts m fun ts m n x => evOpsE C ops rest n ts m fun ts m n l => K ts m n (x :: l)
def memN (i : Nat) : List Nat → Bool
 | [] => false
 | j :: js => match decEq j i with
  | isTrue _ => true
  | isFalse _ => memN i js
def apartN : List Nat → List Nat → Bool
 | [], _ => true
 | i :: is, js => match memN i js with
  | true => false
  | false => apartN is js
def awayL (n : Nat) : List Nat → Bool
 | [] => true
 | i :: is => (Nat.blt i n || Nat.ble (n + wide) i) && awayL n is
def awayP (n : Nat) : List (Nat × List Nat) → Bool
 | [] => true
 | p :: ps => ((Nat.blt p.1 n && allLt n p.2) || (Nat.ble (n + wide) p.1 && allGe (n + wide) p.2)) && awayP n ps
def okPair (x y : Lg) : Bool := apartN x.ws y.ws && (apartN x.ws y.rs && (apartN x.rs y.ws && (match x.ws with
 | [] => true
 | _ :: _ => awayL x.n y.rf && awayP x.n y.pb)))
def maskOf (A : List Nat) : List Edge → Nat
 | [] => 0
 | e :: es => if Region.binds .any e = true then (2 ^ e.on) ||| ((match geta A e.on with
  | some x => x
  | none => 0) ||| maskOf A es) else maskOf A es
def masks : List Oper → List Nat → List Nat
 | [], A => A
 | o :: l, A => forceN (maskOf A o.after.toList) fun x => masks l (A ++ [x])
def chkMasks (A : List Nat) : Nat → List Oper → Bool
 | _, [] => true
 | j, o :: l => match geta A j with
  | some x => Nat.beq x (maskOf A o.after.toList) && (o.after.toList.all (fun e => !Region.binds .any e || Nat.blt e.on j) && chkMasks A (j + 1) l)
  | none => false
def chkRow (A : Nat) (y : Lg) : Nat → List (Lg) → Bool
 | _, [] => true
 | i, z :: zs => (Nat.testBit A i || okPair z y) && chkRow A y (i + 1) zs
def chkLog (A : List Nat) (l : List (Lg)) : Nat → List (Lg) → Bool
 | _, [] => true
 | j, y :: ys => match geta A j with
  | some x => chkRow x y 0 (l.take j) && chkLog A l (j + 1) ys
  | none => false
def okLog (ops : List Oper) (l : List (Lg)) : Bool := (fun A => chkMasks A 0 ops && chkLog A l 0 l) (masks ops [])
structure LCl (E : Env) where
 α : Type
 o : Option α
 w : {R : Type} → α → (Exit → St E → Option R) → Option R
def LCl.go {R : Type} (c : LCl E) (K : Exit → St E → Option R) : Option R := c.o.bind fun x => c.w x K
inductive Prep | weak (id : Nat) | nilT (t : Nat) (e : TypeId) | nilB (id j : Nat) (e : TypeId) | empT (t : Nat) | mvT (t : Nat) | frzT (t : Nat) (e : TypeId) | frzB (id j : Nat) (e : TypeId)
structure Ctx (E : Env) where
 C : FuncId → Option (Entry E)
 L : Nat → Option (St E → LCl E)
 J : Nat → Option (St E → LCl E)
 keep : Nat → List Tmp
 keepX : Nat → List Tmp
 span : Nat → Nat
 eff : Nat → Bool
 prep : Nat → List Prep
 prepB : Nat → List Prep := fun _ => []
 np : Nat
 vb : Nat → Nat := fun _ => 0
 ve : Nat → Nat := fun _ => 0
 Q : Nat → Option (St E → LCl E) := fun _ => none
def memF (i : Nat) : List (Nat × TypeId) → Bool
 | [] => false
 | p :: ps => Nat.beq p.1 i || memF i ps
def lowF (n : Nat) : List (Nat × TypeId) → Bool
 | [] => true
 | p :: ps => Nat.blt p.1 n && lowF n ps
def renA (i c : Nat) : A1 E → A1 E
 | .fn g ids => match memF i ids || memF c ids with
  | true => .junk
  | false => .fn g ids
 | .row j => if j = i then .row c else if j = c then .junk else .row j
 | .win j lo n => if j = i then .win c lo n else if j = c then .junk else .win j lo n
 | .bp j off => if j = i then .bp c off else if j = c then .junk else .bp j off
 | .rp j x off => if j = i then .rp c x off else if j = c then .junk else .rp j x off
 | .ap j lo k x => if j = i then .ap c lo k x else if j = c then .junk else .ap j lo k x
 | .rv j => if j = i then .junk else if j = c then .junk else .rv j
 | .vp j x off => if j = i then .junk else if j = c then .junk else .vp j x off
 | .hd j x off => if j = i then .junk else if j = c then .junk else .hd j x off
 | .hp j x off l o => if j = i then .junk else if j = c then .junk else .hp j x off l o
 | a => a
def lowA (n : Nat) : A1 E → A1 E
 | .fn g ids => match lowF n ids with
  | true => .fn g ids
  | false => .junk
 | .row j => if j < n then .row j else .junk
 | .win j lo k => if j < n then .win j lo k else .junk
 | .bp j off => if j < n then .bp j off else .junk
 | .rp j x off => if j < n then .rp j x off else .junk
 | .ap j lo k x => if j < n then .ap j lo k x else .junk
 | .rv j => if j < n then .rv j else .junk
 | .vp j x off => if j < n then .vp j x off else .junk
 | .hd j x off => if j < n then .hd j x off else .junk
 | .hp j x off l o => if j < n then .hp j x off l o else .junk
 | a => a
def mapA2 (f : A1 E → A1 E) : A2 E → A2 E
 | .c a => .c (f a)
 | .g cs => .g (cs.map f)
def mapAV (f : A1 E → A1 E) : AV E → AV E
 | .v a => .v (mapA2 f a)
 | .tup vs => .tup (vs.map (mapA2 f))
def mapB (f : A1 E → A1 E) : Blk E → Blk E
 | .box cs => .box (cs.map f)
 | .row d e xs => .row d e xs
 | .rowV e xs => .rowV e xs
def mapM (f : A1 E → A1 E) : Mem E → Mem E
 | [] => []
 | (i, b) :: m => (i, mapB f b) :: mapM f m
def lowM (n : Nat) : Mem E → Mem E
 | [] => []
 | (i, b) :: m => match Nat.decLt i n with
  | isTrue _ => (i, b) :: lowM n m
  | isFalse _ => lowM n m
def keepT (keep : List Tmp) : Nat → List (AV E) → List (AV E)
 | _, [] => []
 | i, t :: ts => (if keep.contains i then t else .v (.c .junk)) :: keepT keep (i + 1) ts
def forceT {R : Type} : List (AV E) → (List (AV E) → R) → R
 | [], k => k []
 | a :: as, k => forceAV a fun a => forceT as fun as => k (a :: as)
def forceM {R : Type} : Mem E → (Mem E → R) → R
 | [], k => k []
 | (i, b) :: m, k => forceB b fun b => forceM m fun m => k ((i, b) :: m)
def differ : List (AV E) → List (AV E) → Option (Nat × Nat)
 | .v (.c (.row c)) :: xs, .v (.c (.row i)) :: ys => if i = c then differ xs ys else some (i, c)
 | _ :: xs, _ :: ys => differ xs ys
 | _, _ => none
def differL : List (A1 E) → List (A1 E) → Option (Nat × Nat)
 | .row c :: xs, .row i :: ys => if i = c then differL xs ys else some (i, c)
 | _ :: xs, _ :: ys => differL xs ys
 | _, _ => none
def differM : Mem E → Mem E → Option (Nat × Nat)
 | [], _ => none
 | (id, .box cs) :: um, m => match look m id with
  | some (.box cs') => match differL cs cs' with
   | some p => some p
   | none => differM um m
  | _ => differM um m
 | _ :: um, m => differM um m
def differ2 (us : List (AV E)) (um : Mem E) (ts : List (AV E)) (m : Mem E) : Option (Nat × Nat) := match differ us ts with
 | some p => some p
 | none => differM um m
def renames (z n : Nat) : Nat → List (AV E) → Mem E → List (AV E) → Mem E → Option (List (AV E) × Mem E)
 | 0, _, _, _, _ => none
 | k + 1, us, um, ts, m => match differ2 us um ts m with
  | none => some (ts, m)
  | some (i, c) => match Nat.decLt c n, Nat.decLe z c, look m c, look m i with
   | isTrue _, isTrue _, none, some (.row d e xs) => renames z n k us um (ts.map (mapAV (renA i c))) (setm (delm (mapM (renA i c) m) i) c (.row d e xs))
   | _, _, _, _ => none
def addF : List (Nat × TypeId) → List Nat → List Nat
 | [], is => is
 | p :: ps, is => p.1 :: addF ps is
def idsLK {R : Type} : List (A1 E) → List Nat → (List Nat → R) → R
 | [], is, k => k is
 | .fn _ ids :: as, is, k => idsLK as (addF ids is) k
 | .row i :: as, is, k => idsLK as (i :: is) k
 | .win i _ _ :: as, is, k => idsLK as (i :: is) k
 | .bp i _ :: as, is, k => idsLK as (i :: is) k
 | .rp i _ _ :: as, is, k => idsLK as (i :: is) k
 | .ap i _ _ _ :: as, is, k => idsLK as (i :: is) k
 | .rv i :: as, is, k => idsLK as (i :: is) k
 | .vp i _ _ :: as, is, k => idsLK as (i :: is) k
 | .hd i _ _ :: as, is, k => idsLK as (i :: is) k
 | .hp i _ _ _ _ :: as, is, k => idsLK as (i :: is) k
 | _ :: as, is, k => idsLK as is k
def idsK {R : Type} : List (AV E) → List Nat → (List Nat → R) → R
 | [], is, k => k is
 | .v (.c a) :: ts, is, k => idsLK [a] is fun is => idsK ts is k
 | .v (.g cs) :: ts, is, k => idsLK cs is fun is => idsK ts is k
 | .tup _ :: ts, is, k => idsK ts is k
def idsMK {R : Type} : Mem E → List Nat → (List Nat → R) → R
 | [], is, k => k is
 | (_, .box cs) :: m, is, k => idsLK cs is fun is => idsMK m is k
 | (_, .row _ _ _) :: m, is, k => idsMK m is k
 | (_, .rowV _ _) :: m, is, k => idsMK m is k
def insM (i : Nat) (b : Blk E) : Mem E → Mem E
 | [] => [(i, b)]
 | (j, c) :: m => match decEq i j with
  | isTrue _ => (i, b) :: m
  | isFalse _ => match Nat.decLt i j with
   | isTrue _ => (i, b) :: (j, c) :: m
   | isFalse _ => (j, c) :: insM i b m
def gcM (is : List Nat) : Mem E → Mem E
 | [] => []
 | (i, b) :: m => match memN i is with
  | true => insM i b (gcM is m)
  | false => gcM is m
def gcK {R : Type} (ts : List (AV E)) (m : Mem E) (k : Mem E → R) : R := idsK ts [] fun is => idsMK m is fun is => forceM (gcM is m) k
def prep1 {R : Type} (p : Prep) (S : St E) (k : St E → R) : R := match p with
 | .weak id => match look S.m id with
  | some (.row true e xs) => setmK S.m id (.row false e xs) fun m => k ⟨S.ts, m, S.n⟩
  | _ => k S
 | .nilT t e => match geta S.ts t with
  | some (.v (.c (.s (.slice none 0 0)))) => setlK S.ts t (.v (.c (.row S.n))) fun ts => setmK S.m S.n (.row true e []) fun m => forceN (S.n + wide) fun n => k ⟨ts, m, n⟩
  | _ => k S
 | .nilB id j e => match look S.m id with
  | some (.box cs) => match geta cs j with
   | some (.s (.slice none 0 0)) => setlK cs j (.row S.n) fun cs => setmK S.m S.n (.row true e []) fun m => setmK m id (.box cs) fun m => forceN (S.n + wide) fun n => k ⟨S.ts, m, n⟩
   | _ => k S
  | _ => k S
 | .empT t => match geta S.ts t with
  | some (.v (.c (.row id))) => match look S.m id with
   | some (.row _ e []) => setlK S.ts t (.v (.c (.imm e []))) fun ts => k ⟨ts, S.m, S.n⟩
   | _ => k S
  | _ => k S
 | .mvT t => match geta S.ts t with
  | some (.v (.c (.row id))) => match look S.m id with
   | some (.row d e xs) => forceN (S.n + wide) fun n => k ⟨S.ts.map (mapAV (renA id S.n)), setm (delm (mapM (renA id S.n) S.m) id) S.n (.row d e xs), n⟩
   | _ => k S
  | _ => k S
 | .frzT t e => match geta S.ts t with
  | some (.v (.c (.s (.slice none 0 0)))) => setlK S.ts t (.v (.c (.imm e []))) fun ts => k ⟨ts, S.m, S.n⟩
  | some (.v (.c (.row id))) => match look S.m id with
   | some (.row _ e' xs) => setlK S.ts t (.v (.c (.imm e' xs))) fun ts => delmK S.m id fun m => k ⟨ts, m, S.n⟩
   | _ => k S
  | _ => k S
 | .frzB id j e => match look S.m id with
  | some (.box cs) => match geta cs j with
   | some (.s (.slice none 0 0)) => setlK cs j (.imm e []) fun cs => setmK S.m id (.box cs) fun m => k ⟨S.ts, m, S.n⟩
   | some (.row id') => match look S.m id' with
    | some (.row _ e' xs) => setlK cs j (.imm e' xs) fun cs => delmK S.m id' fun m => setmK m id (.box cs) fun m => k ⟨S.ts, m, S.n⟩
    | _ => k S
   | _ => k S
  | _ => k S
def prepS {R : Type} : List Prep → St E → (St E → R) → R
 | [], S, k => k S
 | p :: ps, S, k => prep1 p S fun S => prepS ps S k
def headS {R : Type} (keep : List Tmp) (S : St E) (k : St E → R) : R := forceT (keepT keep 0 S.ts) fun ts => gcK ts S.m fun m => gcK ts m fun m => k ⟨ts, m, S.n⟩
def canon {R : Type} (z : Nat) (keep : List Tmp) (us : List (AV E)) (um : Mem E) (n0 : Nat) (S : St E) (k : St E → Option R) : Option R :=
 gcK (keepT keep 0 S.ts) S.m fun m0 => match renames z S.n 9 us um (keepT keep 0 S.ts) m0 with
 | some (ts, m) => forceT (ts.map (mapAV (lowA n0))) fun ts => gcK ts (mapM (lowA n0) (lowM n0 m)) fun m => k ⟨ts, m, n0⟩
 | none => none
def canonX {R : Type} (z : Nat) (keep : List Tmp) (us : List (AV E)) (um : Mem E) (n1 : Nat) (S : St E) (k : St E → Option R) : Option R :=
 gcK (keepT keep 0 S.ts) S.m fun m0 => match renames z S.n 9 us um (keepT keep 0 S.ts) m0 with
 | some (ts, m) => forceT ts fun ts => gcK ts m fun m => match Nat.decLe S.n n1 with
  | isTrue _ => k ⟨ts, m, n1⟩
  | isFalse _ => none
 | none => none
def iterStep {R : Type} (body : St E → (Exit → St E → Option R) → Option R) (back : St E → (St E → Option R) → Option R) (K : Exit → St E → Option R) (rec_ : St E → Option R) (S : St E) : Option R := body S fun e S => match e with
 | .normal => back S rec_
 | e => K e S
def iter {R : Type} (body : St E → (Exit → St E → Option R) → Option R) (back : St E → (St E → Option R) → Option R) (K : Exit → St E → Option R) : Nat → St E → Option R
 | 0, _ => none
 | k + 1, S => iterStep body back K (iter body back K k) S
def codeNo : Code → Nat
 | .region id _ _ => id
 | .seq a _ => codeNo a
 | .block _ a => codeNo a
 | .loop a => codeNo a
 | _ => 0
def condNo (a b : Code) : Nat := match codeNo a with
 | 0 => codeNo b
 | n + 1 => n + 1
def seqNo : Code → Code → Nat
 | .region id _ _, .cond _ _ _ => id + 100000
 | _, _ => 0
def hasSl (E : Env) (e : TypeId) : Bool := match E.info e with
 | some i => !flat i
 | none => false
def isV (np : Nat) (m : Mem E) (id : Nat) : Bool := match look m id with
 | some (.row true e _) => Nat.ble np id && hasSl E e
 | _ => false
def viewA (np : Nat) (m : Mem E) : A1 E → A1 E
 | .row id => match isV np m id with
  | true => .rv id
  | false => .row id
 | .rv id => match isV np m id with
  | true => .junk
  | false => .rv id
 | .vp id i off => match isV np m id with
  | true => .junk
  | false => .vp id i off
 | .hd id i off => match isV np m id with
  | true => .junk
  | false => .hd id i off
 | .hp id i off j o => match isV np m id with
  | true => .junk
  | false => .hp id i off j o
 | a => a
def viewB (np id : Nat) (f : A1 E → A1 E) : Blk E → Blk E
 | .box cs => .box (cs.map f)
 | .row true e xs => match Nat.ble np id && hasSl E e with
  | true => .rowV e xs
  | false => .row true e xs
 | b => b
def isU (np : Nat) (m : Mem E) (id : Nat) : Bool := match look m id with
 | some (.rowV _ _) => Nat.ble np id
 | _ => false
def unA (np : Nat) (m : Mem E) : A1 E → A1 E
 | .rv id => match isU np m id with
  | true => .row id
  | false => .rv id
 | .row id => match isU np m id with
  | true => .junk
  | false => .row id
 | .win id lo n => match isU np m id with
  | true => .junk
  | false => .win id lo n
 | .rp id i off => match isU np m id with
  | true => .junk
  | false => .rp id i off
 | a => a
def unB (np id : Nat) (f : A1 E → A1 E) : Blk E → Blk E
 | .box cs => .box (cs.map f)
 | .rowV e xs => match Nat.ble np id with
  | true => .row true e xs
  | false => .rowV e xs
 | b => b
def mapV (g : Nat → Blk E → Blk E) : Mem E → Mem E
 | [] => []
 | (i, b) :: m => (i, g i b) :: mapV g m
def vwK {R : Type} (np : Nat) (c : Nat) (S : St E) (k : St E → Option R) : Option R := match c with
 | 0 => k S
 | 1 => forceT (S.ts.map (mapAV (unA np S.m))) fun ts => forceM (mapV (fun i b => unB np i (unA np S.m) b) S.m) fun m => k ⟨ts, m, S.n⟩
 | _ => forceT (S.ts.map (mapAV (viewA np S.m))) fun ts => forceM (mapV (fun i b => viewB np i (viewA np S.m) b) S.m) fun m => k ⟨ts, m, S.n⟩
def evR {R : Type} (X : Ctx E) (id : Nat) (ops : Array Oper) (d : Bool) (S : St E) (K : Exit → St E → Option R) : Option R :=
 if d = true then (match Region.lexB .any ops with
   | true => match X.eff id with
    | false => evOpsD X.C ops.toList S.n S.m ops.toList S.ts fun ts => forceN (S.n + wide * ops.size) fun n => K .normal ⟨ts, S.m, n⟩
    | true => evOpsE X.C ops.toList ops.toList S.n S.ts S.m fun ts m n l => match okLog ops.toList l with
     | true => K .normal ⟨ts, m, n⟩
     | false => none
   | false => none) else evOps X.C ops.toList ops.toList S.n S.ts S.m none fun ts m n => K .normal ⟨ts, m, n⟩
def evC {R : Type} (X : Ctx E) : Code → St E → (Exit → St E → Option R) → Option R
 | .skip, S, K => K .normal S
 | .region id ops d, S, K => vwK X.np (X.vb id) S fun S => evR X id ops d S fun e S => vwK X.np (X.ve id) S (K e)
 | .seq a b, S, K => match X.Q (seqNo a b) with
  | some h => headS (X.keep (seqNo a b)) S fun S => (h S).go K
  | none => evC X a S fun e S => match e with
   | .normal => evC X b S K
   | e => K e S
 | .cond c a b, S, K => match X.J (condNo a b) with
  | some h => prepS (X.prep (condNo a b)) S fun S => headS (X.keep (condNo a b)) S fun S => (h S).go K
  | none => match Aeval S.ts c with
   | .v (.c (.s (.bool q))) => if q = true then evC X a S K else evC X b S K
   | _ => none
 | .block id a, S, K => evC X a S fun e S => match e with
  | .exit i => if i = id then K .normal S else K (.exit i) S
  | e => K e S
 | .loop a, S, K => match X.L (codeNo a) with
  | some h => prepS (X.prep (codeNo a)) S fun S => headS (X.keep (codeNo a)) S fun S => (h S).go K
  | none => none
 | .exit id, S, K => K (.exit id) S
 | .ret, S, K => K .ret S
 | _, _, _ => none
def evJ {R : Type} (X : Ctx E) (c : Operand) (a b : Code) (us : St E) (K : Exit → St E → Option R) : Option R := match Aeval us.ts c with
 | .v (.c (.s (.bool q))) => if q = true then evC X a us (fun e S => canonX X.np (X.keepX (condNo a b)) us.ts us.m (us.n + X.span (condNo a b)) S (K e)) else evC X b us (fun e S => canonX X.np (X.keepX (condNo a b)) us.ts us.m (us.n + X.span (condNo a b)) S (K e))
 | _ => none
def backS {R : Type} (X : Ctx E) (no : Nat) (us : St E) (S : St E) (k : St E → Option R) : Option R := prepS (X.prepB no) S fun S => canon X.np (X.keep no) us.ts us.m us.n S k
def evL {R : Type} (X : Ctx E) (a : Code) (us : St E) (K : Exit → St E → Option R) (k : Nat) (S : St E) : Option R :=
 iter (fun S K => evC X a S K) (backS X (codeNo a) us) (fun e S => canonX X.np (X.keepX (codeNo a)) us.ts us.m (us.n + X.span (codeNo a)) S (K e)) k S
def evQ {R : Type} (X : Ctx E) (a b : Code) (us : St E) (K : Exit → St E → Option R) : Option R := evC X a us fun e S => match e with
 | .normal => evC X b S (fun e S => canonX X.np (X.keepX (seqNo a b)) us.ts us.m (us.n + X.span (seqNo a b)) S (K e))
 | e => canonX X.np (X.keepX (seqNo a b)) us.ts us.m (us.n + X.span (seqNo a b)) S (K e)
def seqsOf (Q : Nat → Bool) : Code → List (Code × Code)
 | .seq a b => (match Q (seqNo a b) with
  | true => [(a, b)]
  | false => []) ++ (seqsOf Q a ++ seqsOf Q b)
 | .cond _ a b => seqsOf Q a ++ seqsOf Q b
 | .block _ a => seqsOf Q a
 | .loop a => seqsOf Q a
 | _ => []
def QS (X : Ctx E) (q : Code × Code) (h : St E → LCl E) : Prop := ∀ (S : St E) (x : (h S).α), (h S).o = some x → ∀ {R : Type} (K : Exit → St E → Option R) (r : R), (h S).w x K = some r → evQ X q.1 q.2 S K = some r
def loopsOf : Code → List Code
 | .seq a b => loopsOf a ++ loopsOf b
 | .cond _ a b => loopsOf a ++ loopsOf b
 | .block _ a => loopsOf a
 | .loop a => a :: loopsOf a
 | _ => []
def condsOf (J : Nat → Bool) : Code → List (Operand × Code × Code)
 | .seq a b => condsOf J a ++ condsOf J b
 | .cond c a b => (match J (condNo a b) with
  | true => [(c, a, b)]
  | false => []) ++ (condsOf J a ++ condsOf J b)
 | .block _ a => condsOf J a
 | .loop a => condsOf J a
 | _ => []
def LS (X : Ctx E) (a : Code) (h : St E → LCl E) : Prop := ∀ (S : St E) (x : (h S).α), (h S).o = some x → ∀ {R : Type} (K : Exit → St E → Option R) (r : R), (h S).w x K = some r → ∃ k, evL X a S K k S = some r
def JS (X : Ctx E) (q : Operand × Code × Code) (h : St E → LCl E) : Prop := ∀ (S : St E) (x : (h S).α), (h S).o = some x → ∀ {R : Type} (K : Exit → St E → Option R) (r : R), (h S).w x K = some r → evJ X q.1 q.2.1 q.2.2 S K = some r
structure HOK (X : Ctx E) (c : Code) : Prop where
 l : ∀ a ∈ loopsOf c, ∀ h, X.L (codeNo a) = some h → LS X a h
 j : ∀ q ∈ condsOf (fun n => (X.J n).isSome) c, ∀ h, X.J (condNo q.2.1 q.2.2) = some h → JS X q h
 q : ∀ q ∈ seqsOf (fun n => (X.Q n).isSome) c, ∀ h, X.Q (seqNo q.1 q.2) = some h → QS X q h
def seeC : Cell E.T → A1 E
 | .s v => .s v
 | .sl e xs => .imm e xs
 | .wr _ _ => .junk
def wid (b j l : Nat) : Nat := b + (j * 64 + l)
def inL : Nat → List (Cell E.T) → List (A1 E)
 | _, [] => []
 | i, .wr _ _ :: cs => .row i :: inL (i + 1) cs
 | i, c :: cs => seeC c :: inL (i + 1) cs
def inA (b j : Nat) : P2 E → A2 E
 | .v (.c (.wr _ _)) => .c (.row (wid b j 0))
 | .v (.c c) => .c (seeC c)
 | .v (.ptr _) => .c (.bp j 0)
 | .v (.ro e x) => .c (.ip e x 0)
 | .v (.fn g xs) => .c (.fnp g xs)
 | .g cs => .g (inL (wid b j 0) cs)
def inT (b : Nat) : Nat → List (P2 E) → List (AV E)
 | _, [] => []
 | j, p :: ps => .v (inA b j p) :: inT b (j + 1) ps
def inML : Nat → List (Cell E.T) → Mem E → Mem E
 | _, [], m => m
 | i, .wr e xs :: cs, m => (i, .row true e xs) :: inML (i + 1) cs m
 | i, _ :: cs, m => inML (i + 1) cs m
def inM (b : Nat) : Nat → List (P2 E) → Mem E
 | _, [] => []
 | j, .v (.ptr cs) :: ps => (j, .box (cs.map seeC)) :: inM b (j + 1) ps
 | j, .v (.c (.wr e xs)) :: ps => (wid b j 0, .row true e xs) :: inM b (j + 1) ps
 | j, .g cs :: ps => inML (wid b j 0) cs (inM b (j + 1) ps)
 | j, _ :: ps => inM b (j + 1) ps
def hasWL : List (Cell E.T) → Bool
 | [] => false
 | .wr _ _ :: _ => true
 | _ :: cs => hasWL cs
def hasW : List (P2 E) → Bool
 | [] => false
 | .v (.c (.wr _ _)) :: _ => true
 | .g cs :: ps => match hasWL cs with
  | true => true
  | false => hasW ps
 | _ :: ps => hasW ps
def smallP : List (P2 E) → Bool
 | [] => true
 | .g cs :: ps => Nat.ble cs.length 64 && smallP ps
 | _ :: ps => smallP ps
def n0 (ps : List (P2 E)) : Nat := match hasW ps with
 | true => ps.length + ps.length * 64
 | false => ps.length
def backC : A1 E → Option (Cell E.T)
 | .s v => some (.s v)
 | .imm e xs => some (.sl e xs)
 | _ => none
def backCs : List (A1 E) → Option (List (Cell E.T))
 | [] => some []
 | a :: as => match backC a with
  | some c => match backCs as with
   | some cs => some (c :: cs)
   | none => none
  | none => none
def outA1 : A1 E → Mem E → (R1 E → Mem E → Option (Res E)) → Option (Res E)
 | .s v, m, k => k (.s v) m
 | .imm e xs, m, k => k (.imm e xs) m
 | .row id, m, k => match look m id with
  | some (.row d e xs) => delmK m id fun m => k (.own d e xs) m
  | _ => none
 | .win id lo l, m, k => if lo = 0 then (match look m id with
  | some (.row d e xs) => delmK m id fun m => k (.own d e (xs.take l)) m
  | _ => none) else none
 | .bp id 0, m, k => match look m id with
  | some (.box cs) => match backCs cs with
   | some cs => delmK m id fun m => k (.ptr cs) m
   | none => none
  | _ => none
 | _, _, _ => none
def outA1s : List (A1 E) → Mem E → (List (R1 E) → Mem E → Option (Res E)) → Option (Res E)
 | [], m, k => k [] m
 | a :: as, m, k => outA1 a m fun r m => outA1s as m fun rs m => k (r :: rs) m
def outA2 : A2 E → Mem E → (R2 E → Mem E → Option (Res E)) → Option (Res E)
 | .c a, m, k => outA1 a m fun r m => k (.c r) m
 | .g as, m, k => outA1s as m fun rs m => k (.g rs) m
def outVs : List (AV E) → Mem E → (List (R2 E) → Mem E → Option (Res E)) → Option (Res E)
 | [], m, k => k [] m
 | .v a :: as, m, k => outA2 a m fun r m => outVs as m fun rs m => k (r :: rs) m
 | _, _, _ => none
def backL : Nat → List (Cell E.T) → Mem E → Option (List (Cell E.T))
 | _, [], _ => some []
 | i, .wr _ _ :: cs, m => match look m i with
  | some (.row true e xs) => match backL (i + 1) cs m with
   | some us => some (.sl e xs :: us)
   | none => none
  | none => match backL (i + 1) cs m with
   | some us => some (.s (.bool false) :: us)
   | none => none
  | _ => none
 | i, _ :: cs, m => match backL (i + 1) cs m with
  | some us => some (.s (.bool false) :: us)
  | none => none
def backM (b : Nat) : Nat → List (P2 E) → Mem E → Option (List (List (Cell E.T)))
 | _, [], _ => some []
 | j, .v (.ptr _) :: ps, m => match look m j with
  | some (.box cs) => match backCs cs, backM b (j + 1) ps m with
   | some u, some us => some (u :: us)
   | _, _ => none
  | _ => none
 | j, .v (.c (.wr e xs)) :: ps, m => match backL (wid b j 0) [.wr e xs] m, backM b (j + 1) ps m with
  | some u, some us => some (u :: us)
  | _, _ => none
 | j, .g cs :: ps, m => match hasWL cs with
  | true => match backL (wid b j 0) cs m, backM b (j + 1) ps m with
   | some u, some us => some (u :: us)
   | _, _ => none
  | false => match backM b (j + 1) ps m with
   | some us => some ([] :: us)
   | none => none
 | j, _ :: ps, m => match backM b (j + 1) ps m with
  | some us => some ([] :: us)
  | none => none
def resAt (ts : List (AV E)) (m : Mem E) : List ResultVar → Option (List (AV E))
 | [] => some []
 | .tmp t :: rs => match geta ts t with
  | some a => match resAt ts m rs with
   | some as => some (a :: as)
   | none => none
  | none => none
 | .cell a t :: rs => match E.info t, geta ts a with
  | some i, some (.v (.c p)) => match (loadA i p).runD m some with
   | some v => match resAt ts m rs with
    | some as => some (v :: as)
    | none => none
   | none => none
  | _, _ => none
def one (rs : List (R2 E)) : RV E := match rs with
 | [r] => .v r
 | rs => .tup rs
def fin (rs : List ResultVar) (ps : List (P2 E)) (S : St E) : Option (Res E) := match resAt S.ts S.m rs with
 | some as => outVs as S.m fun q m => match backM ps.length 0 ps m with
  | some us => some ⟨one q, us⟩
  | none => none
 | none => none
def evF (X : Ctx E) (c : Code) (ntmps : Nat) (rs : List ResultVar) (ps : List (P2 E)) : Option (Res E) :=
 match smallP ps && (!hasW ps || Nat.ble (n0 ps) X.np) with
 | true => forceT (inT ps.length 0 ps ++ List.replicate (ntmps - ps.length) (.tup [])) fun ts => forceM (inM ps.length 0 ps) fun m => evC X c ⟨ts, m, n0 ps⟩ fun e S => match e with
  | .normal => fin rs ps S
  | .ret => fin rs ps S
  | _ => none
 | false => none
end Go.B
