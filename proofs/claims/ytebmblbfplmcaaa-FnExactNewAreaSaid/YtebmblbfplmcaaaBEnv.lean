/- The types of this seat as Lean types, for BDef: written by a program of this session. -/
import Derived.Test.YtebmblbfplmcaaaBEnvOK
import Derived.Test.YtebmblbfplmcaaaProg
namespace Go.Proofs.Ytebmblbfplmcaaa.B
open Go Go.B
set_option linter.unusedVariables false
set_option linter.unusedSimpArgs false
structure S24 where
  f0 : Int
  f1 : ByteArray
  f2 : ByteArray
  f3 : Int
  f4 : Int
  f5 : Int
  f6 : Int
  f7 : Bool
  f8 : Bool
  f9 : List Int
structure S81 where
  f0 : Int
  f1 : Bool
  f2 : List Int
structure S76 where
  f0 : ByteArray
  f1 : ByteArray
  f2 : Int
  f3 : Int
  f4 : Int
  f5 : List S81
structure S141 where
  f0 : Int
  f1 : Bool
  f2 : List Int
structure S86 where
  f0 : ByteArray
  f1 : ByteArray
  f2 : Int
  f3 : Int
  f4 : Int
  f5 : List S141
structure S100 where
  f0 : Int
  f1 : Int
  f2 : Int
  f3 : Bool
structure S98 where
  f0 : Int
  f1 : Int
  f2 : Int
  f3 : Bool
structure S95 where
  f0 : Int
  f1 : Int
  f2 : Int
structure S147 where
  f0 : Int
  f1 : Int
  f2 : List Bool
structure Ty where
  α : Type
  z : α
def ty : TypeId → Ty
  | 3 => ⟨Int, (0 : Int)⟩
  | 4 => ⟨Bool, false⟩
  | 5 => ⟨Int, (0 : Int)⟩
  | 24 => ⟨S24, ⟨(0 : Int), ByteArray.empty, ByteArray.empty, (0 : Int), (0 : Int), (0 : Int), (0 : Int), false, false, []⟩⟩
  | 65 => ⟨List Int, []⟩
  | 76 => ⟨S76, ⟨ByteArray.empty, ByteArray.empty, (0 : Int), (0 : Int), (0 : Int), []⟩⟩
  | 81 => ⟨S81, ⟨(0 : Int), false, []⟩⟩
  | 86 => ⟨S86, ⟨ByteArray.empty, ByteArray.empty, (0 : Int), (0 : Int), (0 : Int), []⟩⟩
  | 93 => ⟨List S95, []⟩
  | 95 => ⟨S95, ⟨(0 : Int), (0 : Int), (0 : Int)⟩⟩
  | 98 => ⟨S98, ⟨(0 : Int), (0 : Int), (0 : Int), false⟩⟩
  | 100 => ⟨S100, ⟨(0 : Int), (0 : Int), (0 : Int), false⟩⟩
  | 141 => ⟨S141, ⟨(0 : Int), false, []⟩⟩
  | 147 => ⟨S147, ⟨(0 : Int), (0 : Int), []⟩⟩
  | _ => ⟨Unit, ()⟩
abbrev T (e : TypeId) : Type := (ty e).α
def cl {e : TypeId} (e' : TypeId) (h : e = e') (xs : List (T e)) : List (T e') := h ▸ xs
def cells (e : TypeId) (x : T e) : List (Cell T) := match e, x with
  | 3, (x : Int) => [.s (.int .i64 x)]
  | 4, (x : Bool) => [.s (.bool x)]
  | 5, (x : Int) => [.s (.int .u8 x)]
  | 24, (x : S24) => [.s (.int .i64 x.f0), .s (.string x.f1), .s (.string x.f2), .s (.int .i64 x.f3), .s (.int .i64 x.f4), .s (.int .i64 x.f5), .s (.int .i64 x.f6), .s (.bool x.f7), .s (.bool x.f8), .sl 5 x.f9]
  | 65, (x : List Int) => [.sl 3 x]
  | 76, (x : S76) => [.s (.string x.f0), .s (.string x.f1), .s (.int .i64 x.f2), .s (.int .i64 x.f3), .s (.int .i64 x.f4), .sl 81 x.f5]
  | 81, (x : S81) => [.s (.int .i64 x.f0), .s (.bool x.f1), .sl 5 x.f2]
  | 86, (x : S86) => [.s (.string x.f0), .s (.string x.f1), .s (.int .i64 x.f2), .s (.int .i64 x.f3), .s (.int .i64 x.f4), .sl 141 x.f5]
  | 93, (x : List S95) => [.sl 95 x]
  | 95, (x : S95) => [.s (.int .i64 x.f0), .s (.int .i64 x.f1), .s (.int .i64 x.f2)]
  | 98, (x : S98) => [.s (.int .i64 x.f0), .s (.int .i64 x.f1), .s (.int .i64 x.f2), .s (.bool x.f3)]
  | 100, (x : S100) => [.s (.int .i64 x.f0), .s (.int .i64 x.f1), .s (.int .i64 x.f2), .s (.bool x.f3)]
  | 141, (x : S141) => [.s (.int .i64 x.f0), .s (.bool x.f1), .sl 5 x.f2]
  | 147, (x : S147) => [.s (.int .i64 x.f0), .s (.int .i64 x.f1), .sl 4 x.f2]
  | _, _ => []
def make (e : TypeId) (cs : List (Cell T)) : Option (T e) := match e with
  | 3 => match cs with
    | [.s (.int .i64 a0)] => some (a0 : Int)
    | _ => none
  | 4 => match cs with
    | [.s (.bool a0)] => some (a0 : Bool)
    | _ => none
  | 5 => match cs with
    | [.s (.int .u8 a0)] => some (a0 : Int)
    | _ => none
  | 24 => match cs with
    | [.s (.int .i64 a0), .s (.string a1), .s (.string a2), .s (.int .i64 a3), .s (.int .i64 a4), .s (.int .i64 a5), .s (.int .i64 a6), .s (.bool a7), .s (.bool a8), .sl e9 a9] => (if h9 : e9 = 5 then some (⟨a0, a1, a2, a3, a4, a5, a6, a7, a8, (cl 5 h9 a9)⟩ : S24) else none)
    | _ => none
  | 65 => match cs with
    | [.sl e0 a0] => (if h0 : e0 = 3 then some ((cl 3 h0 a0) : List Int) else none)
    | _ => none
  | 76 => match cs with
    | [.s (.string a0), .s (.string a1), .s (.int .i64 a2), .s (.int .i64 a3), .s (.int .i64 a4), .sl e5 a5] => (if h5 : e5 = 81 then some (⟨a0, a1, a2, a3, a4, (cl 81 h5 a5)⟩ : S76) else none)
    | _ => none
  | 81 => match cs with
    | [.s (.int .i64 a0), .s (.bool a1), .sl e2 a2] => (if h2 : e2 = 5 then some (⟨a0, a1, (cl 5 h2 a2)⟩ : S81) else none)
    | _ => none
  | 86 => match cs with
    | [.s (.string a0), .s (.string a1), .s (.int .i64 a2), .s (.int .i64 a3), .s (.int .i64 a4), .sl e5 a5] => (if h5 : e5 = 141 then some (⟨a0, a1, a2, a3, a4, (cl 141 h5 a5)⟩ : S86) else none)
    | _ => none
  | 93 => match cs with
    | [.sl e0 a0] => (if h0 : e0 = 95 then some ((cl 95 h0 a0) : List S95) else none)
    | _ => none
  | 95 => match cs with
    | [.s (.int .i64 a0), .s (.int .i64 a1), .s (.int .i64 a2)] => some (⟨a0, a1, a2⟩ : S95)
    | _ => none
  | 98 => match cs with
    | [.s (.int .i64 a0), .s (.int .i64 a1), .s (.int .i64 a2), .s (.bool a3)] => some (⟨a0, a1, a2, a3⟩ : S98)
    | _ => none
  | 100 => match cs with
    | [.s (.int .i64 a0), .s (.int .i64 a1), .s (.int .i64 a2), .s (.bool a3)] => some (⟨a0, a1, a2, a3⟩ : S100)
    | _ => none
  | 141 => match cs with
    | [.s (.int .i64 a0), .s (.bool a1), .sl e2 a2] => (if h2 : e2 = 5 then some (⟨a0, a1, (cl 5 h2 a2)⟩ : S141) else none)
    | _ => none
  | 147 => match cs with
    | [.s (.int .i64 a0), .s (.int .i64 a1), .sl e2 a2] => (if h2 : e2 = 4 then some (⟨a0, a1, (cl 4 h2 a2)⟩ : S147) else none)
    | _ => none
  | _ => none
def i3 : TI := { desc := .int .i64, size := 1, bytes := 8, zero := some (.int .i64 0), agg := false, ck := [.sc] }
def i4 : TI := { desc := .bool, size := 1, bytes := 1, zero := some (.bool false), agg := false, ck := [.sc] }
def i5 : TI := { desc := .int .u8, size := 1, bytes := 1, zero := some (.int .u8 0), agg := false, ck := [.sc] }
def i9 : TI := { desc := .string, size := 1, bytes := 16, zero := some (.string ByteArray.empty), agg := false, ck := [.sc] }
def i22 : TI := { desc := .slice 5, size := 1, bytes := 24, zero := some (.slice none 0 0), agg := false, ck := [.sl 5] }
def i24 : TI := { desc := .struct #[{ name := "V", type := 3, offset := 0, embedded := false, tag := "", pkgPath := "", byteOffset := 0 }, { name := "From", type := 9, offset := 1, embedded := false, tag := "", pkgPath := "", byteOffset := 8 }, { name := "To", type := 9, offset := 2, embedded := false, tag := "", pkgPath := "", byteOffset := 24 }, { name := "Hop", type := 3, offset := 3, embedded := false, tag := "", pkgPath := "", byteOffset := 40 }, { name := "Proto", type := 3, offset := 4, embedded := false, tag := "", pkgPath := "", byteOffset := 48 }, { name := "Id", type := 3, offset := 5, embedded := false, tag := "", pkgPath := "", byteOffset := 56 }, { name := "Off", type := 3, offset := 6, embedded := false, tag := "", pkgPath := "", byteOffset := 64 }, { name := "More", type := 4, offset := 7, embedded := false, tag := "", pkgPath := "", byteOffset := 72 }, { name := "Keep", type := 4, offset := 8, embedded := false, tag := "", pkgPath := "", byteOffset := 73 }, { name := "Data", type := 22, offset := 9, embedded := false, tag := "", pkgPath := "", byteOffset := 80 }], size := 10, bytes := 104, zero := some (.agg #[.int .i64 0, .string ByteArray.empty, .string ByteArray.empty, .int .i64 0, .int .i64 0, .int .i64 0, .int .i64 0, .bool false, .bool false, .slice none 0 0]), agg := true, ck := [.sc, .sc, .sc, .sc, .sc, .sc, .sc, .sc, .sc, .sl 5] }
def i26 : TI := { desc := .slice 24, size := 1, bytes := 24, zero := some (.slice none 0 0), agg := false, ck := [.sl 24] }
def i30 : TI := { desc := .slice 76, size := 1, bytes := 24, zero := some (.slice none 0 0), agg := false, ck := [.sl 76] }
def i36 : TI := { desc := .slice 86, size := 1, bytes := 24, zero := some (.slice none 0 0), agg := false, ck := [.sl 86] }
def i37 : TI := { desc := .struct #[{ name := "V", type := 3, offset := 0, embedded := false, tag := "", pkgPath := "", byteOffset := 0 }, { name := "From", type := 9, offset := 1, embedded := false, tag := "", pkgPath := "", byteOffset := 8 }, { name := "To", type := 9, offset := 2, embedded := false, tag := "", pkgPath := "", byteOffset := 24 }, { name := "Hop", type := 3, offset := 3, embedded := false, tag := "", pkgPath := "", byteOffset := 40 }, { name := "Proto", type := 3, offset := 4, embedded := false, tag := "", pkgPath := "", byteOffset := 48 }, { name := "Id", type := 3, offset := 5, embedded := false, tag := "", pkgPath := "", byteOffset := 56 }, { name := "Off", type := 3, offset := 6, embedded := false, tag := "", pkgPath := "", byteOffset := 64 }, { name := "More", type := 4, offset := 7, embedded := false, tag := "", pkgPath := "", byteOffset := 72 }, { name := "Keep", type := 4, offset := 8, embedded := false, tag := "", pkgPath := "", byteOffset := 73 }, { name := "Data", type := 22, offset := 9, embedded := false, tag := "", pkgPath := "", byteOffset := 80 }], size := 10, bytes := 104, zero := some (.agg #[.int .i64 0, .string ByteArray.empty, .string ByteArray.empty, .int .i64 0, .int .i64 0, .int .i64 0, .int .i64 0, .bool false, .bool false, .slice none 0 0]), agg := true, ck := [.sc, .sc, .sc, .sc, .sc, .sc, .sc, .sc, .sc, .sl 5] }
def i46 : TI := { desc := .slice 100, size := 1, bytes := 24, zero := some (.slice none 0 0), agg := false, ck := [.sl 100] }
def i48 : TI := { desc := .slice 98, size := 1, bytes := 24, zero := some (.slice none 0 0), agg := false, ck := [.sl 98] }
def i49 : TI := { desc := .slice 93, size := 1, bytes := 24, zero := some (.slice none 0 0), agg := false, ck := [.sl 93] }
def i51 : TI := { desc := .struct #[{ name := "Edges", type := 48, offset := 0, embedded := false, tag := "", pkgPath := "", byteOffset := 0 }, { name := "Tables", type := 49, offset := 1, embedded := false, tag := "", pkgPath := "", byteOffset := 24 }, { name := "Routers", type := 3, offset := 2, embedded := false, tag := "", pkgPath := "", byteOffset := 48 }], size := 3, bytes := 56, zero := some (.agg #[.slice none 0 0, .slice none 0 0, .int .i64 0]), agg := true, ck := [.sl 98, .sl 93, .sc] }
def i61 : TI := { desc := .slice 65, size := 1, bytes := 24, zero := some (.slice none 0 0), agg := false, ck := [.sl 65] }
def i65 : TI := { desc := .slice 3, size := 1, bytes := 24, zero := some (.slice none 0 0), agg := false, ck := [.sl 3] }
def i67 : TI := { desc := .pointer 108, size := 1, bytes := 8, zero := some (.pointer none), agg := false, ck := [.sc] }
def i74 : TI := { desc := .slice 81, size := 1, bytes := 24, zero := some (.slice none 0 0), agg := false, ck := [.sl 81] }
def i76 : TI := { desc := .struct #[{ name := "From", type := 9, offset := 0, embedded := false, tag := "", pkgPath := "", byteOffset := 0 }, { name := "To", type := 9, offset := 1, embedded := false, tag := "", pkgPath := "", byteOffset := 16 }, { name := "Id", type := 3, offset := 2, embedded := false, tag := "", pkgPath := "", byteOffset := 32 }, { name := "Proto", type := 3, offset := 3, embedded := false, tag := "", pkgPath := "", byteOffset := 40 }, { name := "Ends", type := 3, offset := 4, embedded := false, tag := "", pkgPath := "", byteOffset := 48 }, { name := "Pieces", type := 74, offset := 5, embedded := false, tag := "", pkgPath := "", byteOffset := 56 }], size := 6, bytes := 80, zero := some (.agg #[.string ByteArray.empty, .string ByteArray.empty, .int .i64 0, .int .i64 0, .int .i64 0, .slice none 0 0]), agg := true, ck := [.sc, .sc, .sc, .sc, .sc, .sl 81] }
def i81 : TI := { desc := .struct #[{ name := "From", type := 3, offset := 0, embedded := false, tag := "", pkgPath := "", byteOffset := 0 }, { name := "Last", type := 4, offset := 1, embedded := false, tag := "", pkgPath := "", byteOffset := 8 }, { name := "Data", type := 22, offset := 2, embedded := false, tag := "", pkgPath := "", byteOffset := 16 }], size := 3, bytes := 40, zero := some (.agg #[.int .i64 0, .bool false, .slice none 0 0]), agg := true, ck := [.sc, .sc, .sl 5] }
def i84 : TI := { desc := .slice 141, size := 1, bytes := 24, zero := some (.slice none 0 0), agg := false, ck := [.sl 141] }
def i86 : TI := { desc := .struct #[{ name := "From", type := 9, offset := 0, embedded := false, tag := "", pkgPath := "", byteOffset := 0 }, { name := "To", type := 9, offset := 1, embedded := false, tag := "", pkgPath := "", byteOffset := 16 }, { name := "Id", type := 3, offset := 2, embedded := false, tag := "", pkgPath := "", byteOffset := 32 }, { name := "Proto", type := 3, offset := 3, embedded := false, tag := "", pkgPath := "", byteOffset := 40 }, { name := "Ends", type := 3, offset := 4, embedded := false, tag := "", pkgPath := "", byteOffset := 48 }, { name := "Pieces", type := 84, offset := 5, embedded := false, tag := "", pkgPath := "", byteOffset := 56 }], size := 6, bytes := 80, zero := some (.agg #[.string ByteArray.empty, .string ByteArray.empty, .int .i64 0, .int .i64 0, .int .i64 0, .slice none 0 0]), agg := true, ck := [.sc, .sc, .sc, .sc, .sc, .sl 141] }
def i93 : TI := { desc := .slice 95, size := 1, bytes := 24, zero := some (.slice none 0 0), agg := false, ck := [.sl 95] }
def i95 : TI := { desc := .struct #[{ name := "Metric", type := 3, offset := 0, embedded := false, tag := "", pkgPath := "", byteOffset := 0 }, { name := "Via", type := 3, offset := 1, embedded := false, tag := "", pkgPath := "", byteOffset := 8 }, { name := "Age", type := 3, offset := 2, embedded := false, tag := "", pkgPath := "", byteOffset := 16 }], size := 3, bytes := 24, zero := some (.agg #[.int .i64 0, .int .i64 0, .int .i64 0]), agg := true, ck := [.sc, .sc, .sc] }
def i98 : TI := { desc := .struct #[{ name := "A", type := 3, offset := 0, embedded := false, tag := "", pkgPath := "", byteOffset := 0 }, { name := "B", type := 3, offset := 1, embedded := false, tag := "", pkgPath := "", byteOffset := 8 }, { name := "Cost", type := 3, offset := 2, embedded := false, tag := "", pkgPath := "", byteOffset := 16 }, { name := "Up", type := 4, offset := 3, embedded := false, tag := "", pkgPath := "", byteOffset := 24 }], size := 4, bytes := 32, zero := some (.agg #[.int .i64 0, .int .i64 0, .int .i64 0, .bool false]), agg := true, ck := [.sc, .sc, .sc, .sc] }
def i100 : TI := { desc := .struct #[{ name := "A", type := 3, offset := 0, embedded := false, tag := "", pkgPath := "", byteOffset := 0 }, { name := "B", type := 3, offset := 1, embedded := false, tag := "", pkgPath := "", byteOffset := 8 }, { name := "Cost", type := 3, offset := 2, embedded := false, tag := "", pkgPath := "", byteOffset := 16 }, { name := "Up", type := 4, offset := 3, embedded := false, tag := "", pkgPath := "", byteOffset := 24 }], size := 4, bytes := 32, zero := some (.agg #[.int .i64 0, .int .i64 0, .int .i64 0, .bool false]), agg := true, ck := [.sc, .sc, .sc, .sc] }
def i108 : TI := { desc := .struct #[{ name := "code", type := 22, offset := 0, embedded := false, tag := "", pkgPath := "loop.example/g00202/spec", byteOffset := 0 }, { name := "at", type := 3, offset := 1, embedded := false, tag := "", pkgPath := "loop.example/g00202/spec", byteOffset := 24 }, { name := "seed", type := 3, offset := 2, embedded := false, tag := "", pkgPath := "loop.example/g00202/spec", byteOffset := 32 }], size := 3, bytes := 40, zero := some (.agg #[.slice none 0 0, .int .i64 0, .int .i64 0]), agg := true, ck := [.sl 5, .sc, .sc] }
def i127 : TI := { desc := .array 5 4, size := 5, bytes := 5, zero := some (.agg #[.bool false, .bool false, .bool false, .bool false, .bool false]), agg := true, ck := [.sc, .sc, .sc, .sc, .sc] }
def i128 : TI := { desc := .array 5 127, size := 25, bytes := 25, zero := some (.agg #[.bool false, .bool false, .bool false, .bool false, .bool false, .bool false, .bool false, .bool false, .bool false, .bool false, .bool false, .bool false, .bool false, .bool false, .bool false, .bool false, .bool false, .bool false, .bool false, .bool false, .bool false, .bool false, .bool false, .bool false, .bool false]), agg := true, ck := [.sc, .sc, .sc, .sc, .sc, .sc, .sc, .sc, .sc, .sc, .sc, .sc, .sc, .sc, .sc, .sc, .sc, .sc, .sc, .sc, .sc, .sc, .sc, .sc, .sc] }
def i135 : TI := { desc := .slice 147, size := 1, bytes := 24, zero := some (.slice none 0 0), agg := false, ck := [.sl 147] }
def i141 : TI := { desc := .struct #[{ name := "From", type := 3, offset := 0, embedded := false, tag := "", pkgPath := "", byteOffset := 0 }, { name := "Last", type := 4, offset := 1, embedded := false, tag := "", pkgPath := "", byteOffset := 8 }, { name := "Data", type := 22, offset := 2, embedded := false, tag := "", pkgPath := "", byteOffset := 16 }], size := 3, bytes := 40, zero := some (.agg #[.int .i64 0, .bool false, .slice none 0 0]), agg := true, ck := [.sc, .sc, .sl 5] }
def i145 : TI := { desc := .slice 4, size := 1, bytes := 24, zero := some (.slice none 0 0), agg := false, ck := [.sl 4] }
def i147 : TI := { desc := .struct #[{ name := "Kind", type := 3, offset := 0, embedded := false, tag := "", pkgPath := "", byteOffset := 0 }, { name := "Edge", type := 3, offset := 1, embedded := false, tag := "", pkgPath := "", byteOffset := 8 }, { name := "Lost", type := 145, offset := 2, embedded := false, tag := "", pkgPath := "", byteOffset := 16 }], size := 3, bytes := 40, zero := some (.agg #[.int .i64 0, .int .i64 0, .slice none 0 0]), agg := true, ck := [.sc, .sc, .sl 4] }
def i151 : TI := { desc := .pointer 51, size := 1, bytes := 8, zero := some (.pointer none), agg := false, ck := [.sc] }
def infos : List (Nat × TI) := [(3, i3), (4, i4), (5, i5), (9, i9), (22, i22), (24, i24), (26, i26), (30, i30), (36, i36), (37, i37), (46, i46), (48, i48), (49, i49), (51, i51), (61, i61), (65, i65), (67, i67), (74, i74), (76, i76), (81, i81), (84, i84), (86, i86), (93, i93), (95, i95), (98, i98), (100, i100), (108, i108), (127, i127), (128, i128), (135, i135), (141, i141), (145, i145), (147, i147), (151, i151)]
def info (t : TypeId) : Option TI := lookI infos t
def bytes (e : TypeId) (xs : List Int) : Option (List (T e)) := match e with
  | 5 => some (xs : List Int)
  | _ => none
def ints (e : TypeId) (xs : List (T e)) : Option (List Int) := match e, xs with
  | 5, (xs : List Int) => some xs
  | _, _ => none
def eqF (t : TypeId) : Option (List (Nat × Nat)) := match t with
  | 95 => some [(0, 0), (1, 0), (2, 0)]
  | _ => none
def env : Env := { T, dflt := fun e => (ty e).z, cells, make, info, bytes, ints, eqF }
def set24 (xs : List S24) (j off : Nat) (cs : List (Cell T)) : List S24 := setE env 24 xs j off cs
def set76 (xs : List S76) (j off : Nat) (cs : List (Cell T)) : List S76 := setE env 76 xs j off cs
def set81 (xs : List S81) (j off : Nat) (cs : List (Cell T)) : List S81 := setE env 81 xs j off cs
def set86 (xs : List S86) (j off : Nat) (cs : List (Cell T)) : List S86 := setE env 86 xs j off cs
def set95 (xs : List S95) (j off : Nat) (cs : List (Cell T)) : List S95 := setE env 95 xs j off cs
def set98 (xs : List S98) (j off : Nat) (cs : List (Cell T)) : List S98 := setE env 98 xs j off cs
def set100 (xs : List S100) (j off : Nat) (cs : List (Cell T)) : List S100 := setE env 100 xs j off cs
def set141 (xs : List S141) (j off : Nat) (cs : List (Cell T)) : List S141 := setE env 141 xs j off cs
def set147 (xs : List S147) (j off : Nat) (cs : List (Cell T)) : List S147 := setE env 147 xs j off cs
theorem k3 : Gd Try.prog info 3 i3 := ⟨Try.underlying3, by kernel_rfl, by kernel_rfl⟩
theorem k4 : Gd Try.prog info 4 i4 := ⟨Try.underlying4, by kernel_rfl, by kernel_rfl⟩
theorem k5 : Gd Try.prog info 5 i5 := ⟨Try.underlying5, by kernel_rfl, by kernel_rfl⟩
theorem k9 : Gd Try.prog info 9 i9 := ⟨Try.underlying9, by kernel_rfl, by kernel_rfl⟩
theorem k22 : Gd Try.prog info 22 i22 := ⟨Try.underlying22, by kernel_rfl, by kernel_rfl⟩
theorem k24 : Gd Try.prog info 24 i24 := ⟨Try.underlying24, by kernel_rfl, by kernel_rfl⟩
theorem k26 : Gd Try.prog info 26 i26 := ⟨Try.underlying26, by kernel_rfl, by kernel_rfl⟩
theorem k30 : Gd Try.prog info 30 i30 := ⟨Try.underlying30, by kernel_rfl, by kernel_rfl⟩
theorem k36 : Gd Try.prog info 36 i36 := ⟨Try.underlying36, by kernel_rfl, by kernel_rfl⟩
theorem k37 : Gd Try.prog info 37 i37 := ⟨Try.underlying37, by kernel_rfl, by kernel_rfl⟩
theorem k46 : Gd Try.prog info 46 i46 := ⟨Try.underlying46, by kernel_rfl, by kernel_rfl⟩
theorem k48 : Gd Try.prog info 48 i48 := ⟨Try.underlying48, by kernel_rfl, by kernel_rfl⟩
theorem k49 : Gd Try.prog info 49 i49 := ⟨Try.underlying49, by kernel_rfl, by kernel_rfl⟩
theorem k51 : Gd Try.prog info 51 i51 := ⟨Try.underlying51, by kernel_rfl, by kernel_rfl⟩
theorem k61 : Gd Try.prog info 61 i61 := ⟨Try.underlying61, by kernel_rfl, by kernel_rfl⟩
theorem k65 : Gd Try.prog info 65 i65 := ⟨Try.underlying65, by kernel_rfl, by kernel_rfl⟩
theorem k67 : Gd Try.prog info 67 i67 := ⟨Try.underlying67, by kernel_rfl, by kernel_rfl⟩
theorem k74 : Gd Try.prog info 74 i74 := ⟨Try.underlying74, by kernel_rfl, by kernel_rfl⟩
theorem k76 : Gd Try.prog info 76 i76 := ⟨Try.underlying76, by kernel_rfl, by kernel_rfl⟩
theorem k81 : Gd Try.prog info 81 i81 := ⟨Try.underlying81, by kernel_rfl, by kernel_rfl⟩
theorem k84 : Gd Try.prog info 84 i84 := ⟨Try.underlying84, by kernel_rfl, by kernel_rfl⟩
theorem k86 : Gd Try.prog info 86 i86 := ⟨Try.underlying86, by kernel_rfl, by kernel_rfl⟩
theorem k93 : Gd Try.prog info 93 i93 := ⟨Try.underlying93, by kernel_rfl, by kernel_rfl⟩
theorem k95 : Gd Try.prog info 95 i95 := ⟨Try.underlying95, by kernel_rfl, by kernel_rfl⟩
theorem k98 : Gd Try.prog info 98 i98 := ⟨Try.underlying98, by kernel_rfl, by kernel_rfl⟩
theorem k100 : Gd Try.prog info 100 i100 := ⟨Try.underlying100, by kernel_rfl, by kernel_rfl⟩
theorem k108 : Gd Try.prog info 108 i108 := ⟨Try.underlying108, by kernel_rfl, by kernel_rfl⟩
theorem k127 : Gd Try.prog info 127 i127 := ⟨Try.underlying127, by kernel_rfl, by kernel_rfl⟩
theorem k128 : Gd Try.prog info 128 i128 := ⟨Try.underlying128, by kernel_rfl, by kernel_rfl⟩
theorem k135 : Gd Try.prog info 135 i135 := ⟨Try.underlying135, by kernel_rfl, by kernel_rfl⟩
theorem k141 : Gd Try.prog info 141 i141 := ⟨Try.underlying141, by kernel_rfl, by kernel_rfl⟩
theorem k145 : Gd Try.prog info 145 i145 := ⟨Try.underlying145, by kernel_rfl, by kernel_rfl⟩
theorem k147 : Gd Try.prog info 147 i147 := ⟨Try.underlying147, by kernel_rfl, by kernel_rfl⟩
theorem k151 : Gd Try.prog info 151 i151 := ⟨Try.underlying151, by kernel_rfl, by kernel_rfl⟩
theorem kAll : GdL Try.prog info infos := ⟨k3, k4, k5, k9, k22, k24, k26, k30, k36, k37, k46, k48, k49, k51, k61, k65, k67, k74, k76, k81, k84, k86, k93, k95, k98, k100, k108, k127, k128, k135, k141, k145, k147, k151, trivial⟩
theorem make_ok (e : TypeId) (cs : List (Cell T)) (x : T e) (h : make e cs = some x) : cells e x = cs := by
  unfold make at h
  split at h
  · split at h
    · cases h; rfl
    · cases h
  · split at h
    · cases h; rfl
    · cases h
  · split at h
    · cases h; rfl
    · cases h
  · split at h
    · split at h
      · subst_vars; cases h; rfl
      · cases h
    · cases h
  · split at h
    · split at h
      · subst_vars; cases h; rfl
      · cases h
    · cases h
  · split at h
    · split at h
      · subst_vars; cases h; rfl
      · cases h
    · cases h
  · split at h
    · split at h
      · subst_vars; cases h; rfl
      · cases h
    · cases h
  · split at h
    · split at h
      · subst_vars; cases h; rfl
      · cases h
    · cases h
  · split at h
    · split at h
      · subst_vars; cases h; rfl
      · cases h
    · cases h
  · split at h
    · cases h; rfl
    · cases h
  · split at h
    · cases h; rfl
    · cases h
  · split at h
    · cases h; rfl
    · cases h
  · split at h
    · split at h
      · subst_vars; cases h; rfl
      · cases h
    · cases h
  · split at h
    · split at h
      · subst_vars; cases h; rfl
      · cases h
    · cases h
  · cases h
theorem cells_len (e : TypeId) (x : T e) : (cells e x).length = 0 ∨ (cells e x).length = env.sz e := by
  unfold cells
  split
  · exact .inr rfl
  · exact .inr rfl
  · exact .inr rfl
  · exact .inr rfl
  · exact .inr rfl
  · exact .inr rfl
  · exact .inr rfl
  · exact .inr rfl
  · exact .inr rfl
  · exact .inr rfl
  · exact .inr rfl
  · exact .inr rfl
  · exact .inr rfl
  · exact .inr rfl
  · exact .inl rfl
theorem cells_flat (e : TypeId) (i : TI) (x : T e) (hi : info e = some i) (hf : flat i = true) : (cells e x).all isS = true := by
  unfold cells
  split
  · rfl
  · rfl
  · rfl
  · rw [show i = i24 from (Option.some.inj hi).symm] at hf; cases hf
  · rw [show i = i65 from (Option.some.inj hi).symm] at hf; cases hf
  · rw [show i = i76 from (Option.some.inj hi).symm] at hf; cases hf
  · rw [show i = i81 from (Option.some.inj hi).symm] at hf; cases hf
  · rw [show i = i86 from (Option.some.inj hi).symm] at hf; cases hf
  · rw [show i = i93 from (Option.some.inj hi).symm] at hf; cases hf
  · rfl
  · rfl
  · rfl
  · rw [show i = i141 from (Option.some.inj hi).symm] at hf; cases hf
  · rw [show i = i147 from (Option.some.inj hi).symm] at hf; cases hf
  · rfl
theorem bytes_ok (e : TypeId) (xs : List Int) (ys : List (T e)) (i : TI) (h : bytes e xs = some ys) (hi : info e = some i) : (i.size = 1 ∧ i.bytes = 1 ∧ i.zero = some (.int .u8 0)) ∧ ys.length = xs.length ∧ ∀ j, j < xs.length → cells e (ys.getD j (ty e).z) = [.s (.int .u8 (xs.getD j 0))] := by
  unfold bytes at h
  split at h
  · cases h; rw [show i = i5 from (Option.some.inj hi).symm]; exact ⟨⟨rfl, rfl, rfl⟩, rfl, fun j _ => rfl⟩
  · cases h
theorem ints_ok (e : TypeId) (ys : List (T e)) (xs : List Int) (h : ints e ys = some xs) : ys.length = xs.length ∧ ∀ j, j < xs.length → cells e (ys.getD j (ty e).z) = [.s (.int .u8 (xs.getD j 0))] := by
  unfold ints at h
  split at h
  · cases h; exact ⟨rfl, fun j _ => rfl⟩
  · cases h
theorem eq_ok (t : TypeId) (os : List (Nat × Nat)) (h : eqF t = some os) : Try.prog.stoodInHeld t = false ∧ Try.prog.eqGuardType Try.prog.depth t = false ∧ ∃ fs : Array Field, Try.prog.underlying t = some (.struct fs) ∧ EqFs Try.prog fs.toList os := by
  unfold eqF at h
  split at h
  · cases h; exact ⟨by kernel_rfl, by kernel_rfl, _, Try.underlying95, ⟨by decide, rfl, .inl ⟨rfl, _, Try.underlying3⟩, ⟨by decide, rfl, .inl ⟨rfl, _, Try.underlying3⟩, ⟨by decide, rfl, .inl ⟨rfl, _, Try.underlying3⟩, trivial⟩⟩⟩⟩
  · cases h
theorem envOK : EnvOK env Try.prog := envOK_of kAll (fun _ => rfl) make_ok cells_flat cells_len bytes_ok ints_ok (by kernel_rfl) eq_ok
end Go.Proofs.Ytebmblbfplmcaaa.B
