/- The types of this seat as Lean types, for BDef: written by a program of this session. -/
import Derived.Test.YtildepkogbcdpaaBEnvOK
import Derived.Test.YtildepkogbcdpaaProg
namespace Go.Proofs.Ytildepkogbcdpaa.B
open Go Go.B
set_option linter.unusedVariables false
set_option linter.unusedSimpArgs false
structure S24 where
  f0 : Int
  f1 : ByteArray
  f2 : ByteArray
  f3 : Int
  f4 : Int
  f5 : Int
  f6 : Int
  f7 : Bool
  f8 : Bool
  f9 : List Int
structure S131 where
  f0 : Int
  f1 : Int
structure S123 where
  f0 : Int
  f1 : Int
  f2 : List S131
  f3 : Int
  f4 : Int
  f5 : Int
structure S242 where
  f0 : Int
  f1 : Int
structure S189 where
  f0 : Int
  f1 : Int
  f2 : List S242
  f3 : Int
  f4 : Int
  f5 : Int
structure S195 where
  f0 : Int
  f1 : Int
  f2 : Int
  f3 : Bool
structure S225 where
  f0 : Int
  f1 : Int
  f2 : Int
structure S146 where
  f0 : Int
  f1 : Int
  f2 : Int
  f3 : Bool
structure S142 where
  f0 : Int
  f1 : Int
  f2 : Int
structure S72 where
  f0 : ByteArray
  f1 : Bool
  f2 : Int
  f3 : Int
  f4 : List S72
structure S158 where
  f0 : ByteArray
  f1 : Int
  f2 : Int
structure S79 where
  f0 : ByteArray
  f1 : Bool
  f2 : Int
  f3 : Int
  f4 : List S79
structure S211 where
  f0 : Int
  f1 : Bool
  f2 : List Int
structure S104 where
  f0 : ByteArray
  f1 : ByteArray
  f2 : Int
  f3 : Int
  f4 : Int
  f5 : List S211
structure S238 where
  f0 : Int
  f1 : Bool
  f2 : List Int
structure S176 where
  f0 : ByteArray
  f1 : ByteArray
  f2 : Int
  f3 : Int
  f4 : Int
  f5 : List S238
structure Ty where
  α : Type
  z : α
def ty : TypeId → Ty
  | 3 => ⟨Int, (0 : Int)⟩
  | 4 => ⟨Bool, false⟩
  | 5 => ⟨Int, (0 : Int)⟩
  | 24 => ⟨S24, ⟨(0 : Int), ByteArray.empty, ByteArray.empty, (0 : Int), (0 : Int), (0 : Int), (0 : Int), false, false, []⟩⟩
  | 33 => ⟨List Int, []⟩
  | 72 => ⟨S72, ⟨ByteArray.empty, false, (0 : Int), (0 : Int), []⟩⟩
  | 79 => ⟨S79, ⟨ByteArray.empty, false, (0 : Int), (0 : Int), []⟩⟩
  | 104 => ⟨S104, ⟨ByteArray.empty, ByteArray.empty, (0 : Int), (0 : Int), (0 : Int), []⟩⟩
  | 123 => ⟨S123, ⟨(0 : Int), (0 : Int), [], (0 : Int), (0 : Int), (0 : Int)⟩⟩
  | 131 => ⟨S131, ⟨(0 : Int), (0 : Int)⟩⟩
  | 140 => ⟨List S142, []⟩
  | 142 => ⟨S142, ⟨(0 : Int), (0 : Int), (0 : Int)⟩⟩
  | 146 => ⟨S146, ⟨(0 : Int), (0 : Int), (0 : Int), false⟩⟩
  | 158 => ⟨S158, ⟨ByteArray.empty, (0 : Int), (0 : Int)⟩⟩
  | 176 => ⟨S176, ⟨ByteArray.empty, ByteArray.empty, (0 : Int), (0 : Int), (0 : Int), []⟩⟩
  | 189 => ⟨S189, ⟨(0 : Int), (0 : Int), [], (0 : Int), (0 : Int), (0 : Int)⟩⟩
  | 193 => ⟨List S225, []⟩
  | 195 => ⟨S195, ⟨(0 : Int), (0 : Int), (0 : Int), false⟩⟩
  | 211 => ⟨S211, ⟨(0 : Int), false, []⟩⟩
  | 225 => ⟨S225, ⟨(0 : Int), (0 : Int), (0 : Int)⟩⟩
  | 238 => ⟨S238, ⟨(0 : Int), false, []⟩⟩
  | 242 => ⟨S242, ⟨(0 : Int), (0 : Int)⟩⟩
  | _ => ⟨Unit, ()⟩
abbrev T (e : TypeId) : Type := (ty e).α
def cl {e : TypeId} (e' : TypeId) (h : e = e') (xs : List (T e)) : List (T e') := h ▸ xs
def cells (e : TypeId) (x : T e) : List (Cell T) := match e, x with
  | 3, (x : Int) => [.s (.int .i64 x)]
  | 4, (x : Bool) => [.s (.bool x)]
  | 5, (x : Int) => [.s (.int .u8 x)]
  | 24, (x : S24) => [.s (.int .i64 x.f0), .s (.string x.f1), .s (.string x.f2), .s (.int .i64 x.f3), .s (.int .i64 x.f4), .s (.int .i64 x.f5), .s (.int .i64 x.f6), .s (.bool x.f7), .s (.bool x.f8), .sl 5 x.f9]
  | 33, (x : List Int) => [.sl 3 x]
  | 72, (x : S72) => [.s (.string x.f0), .s (.bool x.f1), .s (.int .i64 x.f2), .s (.int .i64 x.f3), .sl 72 x.f4]
  | 79, (x : S79) => [.s (.string x.f0), .s (.bool x.f1), .s (.int .i64 x.f2), .s (.int .i64 x.f3), .sl 79 x.f4]
  | 104, (x : S104) => [.s (.string x.f0), .s (.string x.f1), .s (.int .i64 x.f2), .s (.int .i64 x.f3), .s (.int .i64 x.f4), .sl 211 x.f5]
  | 123, (x : S123) => [.s (.int .i64 x.f0), .s (.int .i64 x.f1), .sl 131 x.f2, .s (.int .i64 x.f3), .s (.int .i64 x.f4), .s (.int .i64 x.f5)]
  | 131, (x : S131) => [.s (.int .i64 x.f0), .s (.int .i64 x.f1)]
  | 140, (x : List S142) => [.sl 142 x]
  | 142, (x : S142) => [.s (.int .i64 x.f0), .s (.int .i64 x.f1), .s (.int .i64 x.f2)]
  | 146, (x : S146) => [.s (.int .i64 x.f0), .s (.int .i64 x.f1), .s (.int .i64 x.f2), .s (.bool x.f3)]
  | 158, (x : S158) => [.s (.string x.f0), .s (.int .i64 x.f1), .s (.int .i64 x.f2)]
  | 176, (x : S176) => [.s (.string x.f0), .s (.string x.f1), .s (.int .i64 x.f2), .s (.int .i64 x.f3), .s (.int .i64 x.f4), .sl 238 x.f5]
  | 189, (x : S189) => [.s (.int .i64 x.f0), .s (.int .i64 x.f1), .sl 242 x.f2, .s (.int .i64 x.f3), .s (.int .i64 x.f4), .s (.int .i64 x.f5)]
  | 193, (x : List S225) => [.sl 225 x]
  | 195, (x : S195) => [.s (.int .i64 x.f0), .s (.int .i64 x.f1), .s (.int .i64 x.f2), .s (.bool x.f3)]
  | 211, (x : S211) => [.s (.int .i64 x.f0), .s (.bool x.f1), .sl 5 x.f2]
  | 225, (x : S225) => [.s (.int .i64 x.f0), .s (.int .i64 x.f1), .s (.int .i64 x.f2)]
  | 238, (x : S238) => [.s (.int .i64 x.f0), .s (.bool x.f1), .sl 5 x.f2]
  | 242, (x : S242) => [.s (.int .i64 x.f0), .s (.int .i64 x.f1)]
  | _, _ => []
def make (e : TypeId) (cs : List (Cell T)) : Option (T e) := match e with
  | 3 => match cs with
    | [.s (.int .i64 a0)] => some (a0 : Int)
    | _ => none
  | 4 => match cs with
    | [.s (.bool a0)] => some (a0 : Bool)
    | _ => none
  | 5 => match cs with
    | [.s (.int .u8 a0)] => some (a0 : Int)
    | _ => none
  | 24 => match cs with
    | [.s (.int .i64 a0), .s (.string a1), .s (.string a2), .s (.int .i64 a3), .s (.int .i64 a4), .s (.int .i64 a5), .s (.int .i64 a6), .s (.bool a7), .s (.bool a8), .sl e9 a9] => (if h9 : e9 = 5 then some (⟨a0, a1, a2, a3, a4, a5, a6, a7, a8, (cl 5 h9 a9)⟩ : S24) else none)
    | _ => none
  | 33 => match cs with
    | [.sl e0 a0] => (if h0 : e0 = 3 then some ((cl 3 h0 a0) : List Int) else none)
    | _ => none
  | 72 => match cs with
    | [.s (.string a0), .s (.bool a1), .s (.int .i64 a2), .s (.int .i64 a3), .sl e4 a4] => (if h4 : e4 = 72 then some (⟨a0, a1, a2, a3, (cl 72 h4 a4)⟩ : S72) else none)
    | _ => none
  | 79 => match cs with
    | [.s (.string a0), .s (.bool a1), .s (.int .i64 a2), .s (.int .i64 a3), .sl e4 a4] => (if h4 : e4 = 79 then some (⟨a0, a1, a2, a3, (cl 79 h4 a4)⟩ : S79) else none)
    | _ => none
  | 104 => match cs with
    | [.s (.string a0), .s (.string a1), .s (.int .i64 a2), .s (.int .i64 a3), .s (.int .i64 a4), .sl e5 a5] => (if h5 : e5 = 211 then some (⟨a0, a1, a2, a3, a4, (cl 211 h5 a5)⟩ : S104) else none)
    | _ => none
  | 123 => match cs with
    | [.s (.int .i64 a0), .s (.int .i64 a1), .sl e2 a2, .s (.int .i64 a3), .s (.int .i64 a4), .s (.int .i64 a5)] => (if h2 : e2 = 131 then some (⟨a0, a1, (cl 131 h2 a2), a3, a4, a5⟩ : S123) else none)
    | _ => none
  | 131 => match cs with
    | [.s (.int .i64 a0), .s (.int .i64 a1)] => some (⟨a0, a1⟩ : S131)
    | _ => none
  | 140 => match cs with
    | [.sl e0 a0] => (if h0 : e0 = 142 then some ((cl 142 h0 a0) : List S142) else none)
    | _ => none
  | 142 => match cs with
    | [.s (.int .i64 a0), .s (.int .i64 a1), .s (.int .i64 a2)] => some (⟨a0, a1, a2⟩ : S142)
    | _ => none
  | 146 => match cs with
    | [.s (.int .i64 a0), .s (.int .i64 a1), .s (.int .i64 a2), .s (.bool a3)] => some (⟨a0, a1, a2, a3⟩ : S146)
    | _ => none
  | 158 => match cs with
    | [.s (.string a0), .s (.int .i64 a1), .s (.int .i64 a2)] => some (⟨a0, a1, a2⟩ : S158)
    | _ => none
  | 176 => match cs with
    | [.s (.string a0), .s (.string a1), .s (.int .i64 a2), .s (.int .i64 a3), .s (.int .i64 a4), .sl e5 a5] => (if h5 : e5 = 238 then some (⟨a0, a1, a2, a3, a4, (cl 238 h5 a5)⟩ : S176) else none)
    | _ => none
  | 189 => match cs with
    | [.s (.int .i64 a0), .s (.int .i64 a1), .sl e2 a2, .s (.int .i64 a3), .s (.int .i64 a4), .s (.int .i64 a5)] => (if h2 : e2 = 242 then some (⟨a0, a1, (cl 242 h2 a2), a3, a4, a5⟩ : S189) else none)
    | _ => none
  | 193 => match cs with
    | [.sl e0 a0] => (if h0 : e0 = 225 then some ((cl 225 h0 a0) : List S225) else none)
    | _ => none
  | 195 => match cs with
    | [.s (.int .i64 a0), .s (.int .i64 a1), .s (.int .i64 a2), .s (.bool a3)] => some (⟨a0, a1, a2, a3⟩ : S195)
    | _ => none
  | 211 => match cs with
    | [.s (.int .i64 a0), .s (.bool a1), .sl e2 a2] => (if h2 : e2 = 5 then some (⟨a0, a1, (cl 5 h2 a2)⟩ : S211) else none)
    | _ => none
  | 225 => match cs with
    | [.s (.int .i64 a0), .s (.int .i64 a1), .s (.int .i64 a2)] => some (⟨a0, a1, a2⟩ : S225)
    | _ => none
  | 238 => match cs with
    | [.s (.int .i64 a0), .s (.bool a1), .sl e2 a2] => (if h2 : e2 = 5 then some (⟨a0, a1, (cl 5 h2 a2)⟩ : S238) else none)
    | _ => none
  | 242 => match cs with
    | [.s (.int .i64 a0), .s (.int .i64 a1)] => some (⟨a0, a1⟩ : S242)
    | _ => none
  | _ => none
def i3 : TI := { desc := .int .i64, size := 1, bytes := 8, zero := some (.int .i64 0), agg := false, ck := [.sc] }
def i4 : TI := { desc := .bool, size := 1, bytes := 1, zero := some (.bool false), agg := false, ck := [.sc] }
def i5 : TI := { desc := .int .u8, size := 1, bytes := 1, zero := some (.int .u8 0), agg := false, ck := [.sc] }
def i9 : TI := { desc := .string, size := 1, bytes := 16, zero := some (.string ByteArray.empty), agg := false, ck := [.sc] }
def i22 : TI := { desc := .slice 5, size := 1, bytes := 24, zero := some (.slice none 0 0), agg := false, ck := [.sl 5] }
def i24 : TI := { desc := .struct #[{ name := "V", type := 3, offset := 0, embedded := false, tag := "", pkgPath := "", byteOffset := 0 }, { name := "From", type := 9, offset := 1, embedded := false, tag := "", pkgPath := "", byteOffset := 8 }, { name := "To", type := 9, offset := 2, embedded := false, tag := "", pkgPath := "", byteOffset := 24 }, { name := "Hop", type := 3, offset := 3, embedded := false, tag := "", pkgPath := "", byteOffset := 40 }, { name := "Proto", type := 3, offset := 4, embedded := false, tag := "", pkgPath := "", byteOffset := 48 }, { name := "Id", type := 3, offset := 5, embedded := false, tag := "", pkgPath := "", byteOffset := 56 }, { name := "Off", type := 3, offset := 6, embedded := false, tag := "", pkgPath := "", byteOffset := 64 }, { name := "More", type := 4, offset := 7, embedded := false, tag := "", pkgPath := "", byteOffset := 72 }, { name := "Keep", type := 4, offset := 8, embedded := false, tag := "", pkgPath := "", byteOffset := 73 }, { name := "Data", type := 22, offset := 9, embedded := false, tag := "", pkgPath := "", byteOffset := 80 }], size := 10, bytes := 104, zero := some (.agg #[.int .i64 0, .string ByteArray.empty, .string ByteArray.empty, .int .i64 0, .int .i64 0, .int .i64 0, .int .i64 0, .bool false, .bool false, .slice none 0 0]), agg := true, ck := [.sc, .sc, .sc, .sc, .sc, .sc, .sc, .sc, .sc, .sl 5] }
def i27 : TI := { desc := .slice 24, size := 1, bytes := 24, zero := some (.slice none 0 0), agg := false, ck := [.sl 24] }
def i33 : TI := { desc := .slice 3, size := 1, bytes := 24, zero := some (.slice none 0 0), agg := false, ck := [.sl 3] }
def i34 : TI := { desc := .slice 123, size := 1, bytes := 24, zero := some (.slice none 0 0), agg := false, ck := [.sl 123] }
def i36 : TI := { desc := .struct #[{ name := "Classes", type := 34, offset := 0, embedded := false, tag := "", pkgPath := "", byteOffset := 0 }, { name := "Turn", type := 33, offset := 1, embedded := false, tag := "", pkgPath := "", byteOffset := 24 }, { name := "Fresh", type := 4, offset := 2, embedded := false, tag := "", pkgPath := "", byteOffset := 48 }], size := 3, bytes := 56, zero := some (.agg #[.slice none 0 0, .slice none 0 0, .bool false]), agg := true, ck := [.sl 123, .sl 3, .sc] }
def i50 : TI := { desc := .slice 189, size := 1, bytes := 24, zero := some (.slice none 0 0), agg := false, ck := [.sl 189] }
def i52 : TI := { desc := .struct #[{ name := "Classes", type := 50, offset := 0, embedded := false, tag := "", pkgPath := "", byteOffset := 0 }, { name := "Turn", type := 33, offset := 1, embedded := false, tag := "", pkgPath := "", byteOffset := 24 }, { name := "Fresh", type := 4, offset := 2, embedded := false, tag := "", pkgPath := "", byteOffset := 48 }], size := 3, bytes := 56, zero := some (.agg #[.slice none 0 0, .slice none 0 0, .bool false]), agg := true, ck := [.sl 189, .sl 3, .sc] }
def i57 : TI := { desc := .slice 195, size := 1, bytes := 24, zero := some (.slice none 0 0), agg := false, ck := [.sl 195] }
def i58 : TI := { desc := .slice 193, size := 1, bytes := 24, zero := some (.slice none 0 0), agg := false, ck := [.sl 193] }
def i60 : TI := { desc := .struct #[{ name := "Edges", type := 57, offset := 0, embedded := false, tag := "", pkgPath := "", byteOffset := 0 }, { name := "Tables", type := 58, offset := 1, embedded := false, tag := "", pkgPath := "", byteOffset := 24 }, { name := "Routers", type := 3, offset := 2, embedded := false, tag := "", pkgPath := "", byteOffset := 48 }], size := 3, bytes := 56, zero := some (.agg #[.slice none 0 0, .slice none 0 0, .int .i64 0]), agg := true, ck := [.sl 195, .sl 193, .sc] }
def i63 : TI := { desc := .slice 146, size := 1, bytes := 24, zero := some (.slice none 0 0), agg := false, ck := [.sl 146] }
def i64 : TI := { desc := .slice 140, size := 1, bytes := 24, zero := some (.slice none 0 0), agg := false, ck := [.sl 140] }
def i66 : TI := { desc := .struct #[{ name := "Edges", type := 63, offset := 0, embedded := false, tag := "", pkgPath := "", byteOffset := 0 }, { name := "Tables", type := 64, offset := 1, embedded := false, tag := "", pkgPath := "", byteOffset := 24 }, { name := "Routers", type := 3, offset := 2, embedded := false, tag := "", pkgPath := "", byteOffset := 48 }], size := 3, bytes := 56, zero := some (.agg #[.slice none 0 0, .slice none 0 0, .int .i64 0]), agg := true, ck := [.sl 146, .sl 140, .sc] }
def i70 : TI := { desc := .slice 72, size := 1, bytes := 24, zero := some (.slice none 0 0), agg := false, ck := [.sl 72] }
def i72 : TI := { desc := .struct #[{ name := "Bits", type := 9, offset := 0, embedded := false, tag := "", pkgPath := "", byteOffset := 0 }, { name := "Has", type := 4, offset := 1, embedded := false, tag := "", pkgPath := "", byteOffset := 16 }, { name := "Via", type := 3, offset := 2, embedded := false, tag := "", pkgPath := "", byteOffset := 24 }, { name := "Metric", type := 3, offset := 3, embedded := false, tag := "", pkgPath := "", byteOffset := 32 }, { name := "Kids", type := 70, offset := 4, embedded := false, tag := "", pkgPath := "", byteOffset := 40 }], size := 5, bytes := 64, zero := some (.agg #[.string ByteArray.empty, .bool false, .int .i64 0, .int .i64 0, .slice none 0 0]), agg := true, ck := [.sc, .sc, .sc, .sc, .sl 72] }
def i74 : TI := { desc := .slice 158, size := 1, bytes := 24, zero := some (.slice none 0 0), agg := false, ck := [.sl 158] }
def i77 : TI := { desc := .slice 79, size := 1, bytes := 24, zero := some (.slice none 0 0), agg := false, ck := [.sl 79] }
def i79 : TI := { desc := .struct #[{ name := "Bits", type := 9, offset := 0, embedded := false, tag := "", pkgPath := "", byteOffset := 0 }, { name := "Has", type := 4, offset := 1, embedded := false, tag := "", pkgPath := "", byteOffset := 16 }, { name := "Via", type := 3, offset := 2, embedded := false, tag := "", pkgPath := "", byteOffset := 24 }, { name := "Metric", type := 3, offset := 3, embedded := false, tag := "", pkgPath := "", byteOffset := 32 }, { name := "Kids", type := 77, offset := 4, embedded := false, tag := "", pkgPath := "", byteOffset := 40 }], size := 5, bytes := 64, zero := some (.agg #[.string ByteArray.empty, .bool false, .int .i64 0, .int .i64 0, .slice none 0 0]), agg := true, ck := [.sc, .sc, .sc, .sc, .sl 79] }
def i88 : TI := { desc := .struct #[{ name := "V", type := 3, offset := 0, embedded := false, tag := "", pkgPath := "", byteOffset := 0 }, { name := "From", type := 9, offset := 1, embedded := false, tag := "", pkgPath := "", byteOffset := 8 }, { name := "To", type := 9, offset := 2, embedded := false, tag := "", pkgPath := "", byteOffset := 24 }, { name := "Hop", type := 3, offset := 3, embedded := false, tag := "", pkgPath := "", byteOffset := 40 }, { name := "Proto", type := 3, offset := 4, embedded := false, tag := "", pkgPath := "", byteOffset := 48 }, { name := "Id", type := 3, offset := 5, embedded := false, tag := "", pkgPath := "", byteOffset := 56 }, { name := "Off", type := 3, offset := 6, embedded := false, tag := "", pkgPath := "", byteOffset := 64 }, { name := "More", type := 4, offset := 7, embedded := false, tag := "", pkgPath := "", byteOffset := 72 }, { name := "Keep", type := 4, offset := 8, embedded := false, tag := "", pkgPath := "", byteOffset := 73 }, { name := "Data", type := 22, offset := 9, embedded := false, tag := "", pkgPath := "", byteOffset := 80 }], size := 10, bytes := 104, zero := some (.agg #[.int .i64 0, .string ByteArray.empty, .string ByteArray.empty, .int .i64 0, .int .i64 0, .int .i64 0, .int .i64 0, .bool false, .bool false, .slice none 0 0]), agg := true, ck := [.sc, .sc, .sc, .sc, .sc, .sc, .sc, .sc, .sc, .sl 5] }
def i98 : TI := { desc := .slice 104, size := 1, bytes := 24, zero := some (.slice none 0 0), agg := false, ck := [.sl 104] }
def i102 : TI := { desc := .slice 211, size := 1, bytes := 24, zero := some (.slice none 0 0), agg := false, ck := [.sl 211] }
def i104 : TI := { desc := .struct #[{ name := "From", type := 9, offset := 0, embedded := false, tag := "", pkgPath := "", byteOffset := 0 }, { name := "To", type := 9, offset := 1, embedded := false, tag := "", pkgPath := "", byteOffset := 16 }, { name := "Id", type := 3, offset := 2, embedded := false, tag := "", pkgPath := "", byteOffset := 32 }, { name := "Proto", type := 3, offset := 3, embedded := false, tag := "", pkgPath := "", byteOffset := 40 }, { name := "Ends", type := 3, offset := 4, embedded := false, tag := "", pkgPath := "", byteOffset := 48 }, { name := "Pieces", type := 102, offset := 5, embedded := false, tag := "", pkgPath := "", byteOffset := 56 }], size := 6, bytes := 80, zero := some (.agg #[.string ByteArray.empty, .string ByteArray.empty, .int .i64 0, .int .i64 0, .int .i64 0, .slice none 0 0]), agg := true, ck := [.sc, .sc, .sc, .sc, .sc, .sl 211] }
def i105 : TI := { desc := .slice 33, size := 1, bytes := 24, zero := some (.slice none 0 0), agg := false, ck := [.sl 33] }
def i110 : TI := { desc := .slice 176, size := 1, bytes := 24, zero := some (.slice none 0 0), agg := false, ck := [.sl 176] }
def i116 : TI := { desc := .pointer 181, size := 1, bytes := 8, zero := some (.pointer none), agg := false, ck := [.sc] }
def i121 : TI := { desc := .slice 131, size := 1, bytes := 24, zero := some (.slice none 0 0), agg := false, ck := [.sl 131] }
def i123 : TI := { desc := .struct #[{ name := "Quantum", type := 3, offset := 0, embedded := false, tag := "", pkgPath := "", byteOffset := 0 }, { name := "Limit", type := 3, offset := 1, embedded := false, tag := "", pkgPath := "", byteOffset := 8 }, { name := "Items", type := 121, offset := 2, embedded := false, tag := "", pkgPath := "", byteOffset := 16 }, { name := "Credit", type := 3, offset := 3, embedded := false, tag := "", pkgPath := "", byteOffset := 40 }, { name := "Sent", type := 3, offset := 4, embedded := false, tag := "", pkgPath := "", byteOffset := 48 }, { name := "Dropped", type := 3, offset := 5, embedded := false, tag := "", pkgPath := "", byteOffset := 56 }], size := 6, bytes := 64, zero := some (.agg #[.int .i64 0, .int .i64 0, .slice none 0 0, .int .i64 0, .int .i64 0, .int .i64 0]), agg := true, ck := [.sc, .sc, .sl 131, .sc, .sc, .sc] }
def i129 : TI := { desc := .slice 4, size := 1, bytes := 24, zero := some (.slice none 0 0), agg := false, ck := [.sl 4] }
def i131 : TI := { desc := .struct #[{ name := "Id", type := 3, offset := 0, embedded := false, tag := "", pkgPath := "", byteOffset := 0 }, { name := "Size", type := 3, offset := 1, embedded := false, tag := "", pkgPath := "", byteOffset := 8 }], size := 2, bytes := 16, zero := some (.agg #[.int .i64 0, .int .i64 0]), agg := true, ck := [.sc, .sc] }
def i135 : TI := { desc := .array 5 4, size := 5, bytes := 5, zero := some (.agg #[.bool false, .bool false, .bool false, .bool false, .bool false]), agg := true, ck := [.sc, .sc, .sc, .sc, .sc] }
def i140 : TI := { desc := .slice 142, size := 1, bytes := 24, zero := some (.slice none 0 0), agg := false, ck := [.sl 142] }
def i142 : TI := { desc := .struct #[{ name := "Metric", type := 3, offset := 0, embedded := false, tag := "", pkgPath := "", byteOffset := 0 }, { name := "Via", type := 3, offset := 1, embedded := false, tag := "", pkgPath := "", byteOffset := 8 }, { name := "Age", type := 3, offset := 2, embedded := false, tag := "", pkgPath := "", byteOffset := 16 }], size := 3, bytes := 24, zero := some (.agg #[.int .i64 0, .int .i64 0, .int .i64 0]), agg := true, ck := [.sc, .sc, .sc] }
def i146 : TI := { desc := .struct #[{ name := "A", type := 3, offset := 0, embedded := false, tag := "", pkgPath := "", byteOffset := 0 }, { name := "B", type := 3, offset := 1, embedded := false, tag := "", pkgPath := "", byteOffset := 8 }, { name := "Cost", type := 3, offset := 2, embedded := false, tag := "", pkgPath := "", byteOffset := 16 }, { name := "Up", type := 4, offset := 3, embedded := false, tag := "", pkgPath := "", byteOffset := 24 }], size := 4, bytes := 32, zero := some (.agg #[.int .i64 0, .int .i64 0, .int .i64 0, .bool false]), agg := true, ck := [.sc, .sc, .sc, .sc] }
def i158 : TI := { desc := .struct #[{ name := "Bits", type := 9, offset := 0, embedded := false, tag := "", pkgPath := "", byteOffset := 0 }, { name := "Via", type := 3, offset := 1, embedded := false, tag := "", pkgPath := "", byteOffset := 16 }, { name := "Metric", type := 3, offset := 2, embedded := false, tag := "", pkgPath := "", byteOffset := 24 }], size := 3, bytes := 32, zero := some (.agg #[.string ByteArray.empty, .int .i64 0, .int .i64 0]), agg := true, ck := [.sc, .sc, .sc] }
def i174 : TI := { desc := .slice 238, size := 1, bytes := 24, zero := some (.slice none 0 0), agg := false, ck := [.sl 238] }
def i176 : TI := { desc := .struct #[{ name := "From", type := 9, offset := 0, embedded := false, tag := "", pkgPath := "", byteOffset := 0 }, { name := "To", type := 9, offset := 1, embedded := false, tag := "", pkgPath := "", byteOffset := 16 }, { name := "Id", type := 3, offset := 2, embedded := false, tag := "", pkgPath := "", byteOffset := 32 }, { name := "Proto", type := 3, offset := 3, embedded := false, tag := "", pkgPath := "", byteOffset := 40 }, { name := "Ends", type := 3, offset := 4, embedded := false, tag := "", pkgPath := "", byteOffset := 48 }, { name := "Pieces", type := 174, offset := 5, embedded := false, tag := "", pkgPath := "", byteOffset := 56 }], size := 6, bytes := 80, zero := some (.agg #[.string ByteArray.empty, .string ByteArray.empty, .int .i64 0, .int .i64 0, .int .i64 0, .slice none 0 0]), agg := true, ck := [.sc, .sc, .sc, .sc, .sc, .sl 238] }
def i181 : TI := { desc := .struct #[{ name := "code", type := 22, offset := 0, embedded := false, tag := "", pkgPath := "loop.example/g00202/spec", byteOffset := 0 }, { name := "at", type := 3, offset := 1, embedded := false, tag := "", pkgPath := "loop.example/g00202/spec", byteOffset := 24 }, { name := "seed", type := 3, offset := 2, embedded := false, tag := "", pkgPath := "loop.example/g00202/spec", byteOffset := 32 }], size := 3, bytes := 40, zero := some (.agg #[.slice none 0 0, .int .i64 0, .int .i64 0]), agg := true, ck := [.sl 5, .sc, .sc] }
def i187 : TI := { desc := .slice 242, size := 1, bytes := 24, zero := some (.slice none 0 0), agg := false, ck := [.sl 242] }
def i189 : TI := { desc := .struct #[{ name := "Quantum", type := 3, offset := 0, embedded := false, tag := "", pkgPath := "", byteOffset := 0 }, { name := "Limit", type := 3, offset := 1, embedded := false, tag := "", pkgPath := "", byteOffset := 8 }, { name := "Items", type := 187, offset := 2, embedded := false, tag := "", pkgPath := "", byteOffset := 16 }, { name := "Credit", type := 3, offset := 3, embedded := false, tag := "", pkgPath := "", byteOffset := 40 }, { name := "Sent", type := 3, offset := 4, embedded := false, tag := "", pkgPath := "", byteOffset := 48 }, { name := "Dropped", type := 3, offset := 5, embedded := false, tag := "", pkgPath := "", byteOffset := 56 }], size := 6, bytes := 64, zero := some (.agg #[.int .i64 0, .int .i64 0, .slice none 0 0, .int .i64 0, .int .i64 0, .int .i64 0]), agg := true, ck := [.sc, .sc, .sl 242, .sc, .sc, .sc] }
def i193 : TI := { desc := .slice 225, size := 1, bytes := 24, zero := some (.slice none 0 0), agg := false, ck := [.sl 225] }
def i195 : TI := { desc := .struct #[{ name := "A", type := 3, offset := 0, embedded := false, tag := "", pkgPath := "", byteOffset := 0 }, { name := "B", type := 3, offset := 1, embedded := false, tag := "", pkgPath := "", byteOffset := 8 }, { name := "Cost", type := 3, offset := 2, embedded := false, tag := "", pkgPath := "", byteOffset := 16 }, { name := "Up", type := 4, offset := 3, embedded := false, tag := "", pkgPath := "", byteOffset := 24 }], size := 4, bytes := 32, zero := some (.agg #[.int .i64 0, .int .i64 0, .int .i64 0, .bool false]), agg := true, ck := [.sc, .sc, .sc, .sc] }
def i197 : TI := { desc := .array 5 135, size := 25, bytes := 25, zero := some (.agg #[.bool false, .bool false, .bool false, .bool false, .bool false, .bool false, .bool false, .bool false, .bool false, .bool false, .bool false, .bool false, .bool false, .bool false, .bool false, .bool false, .bool false, .bool false, .bool false, .bool false, .bool false, .bool false, .bool false, .bool false, .bool false]), agg := true, ck := [.sc, .sc, .sc, .sc, .sc, .sc, .sc, .sc, .sc, .sc, .sc, .sc, .sc, .sc, .sc, .sc, .sc, .sc, .sc, .sc, .sc, .sc, .sc, .sc, .sc] }
def i198 : TI := { desc := .pointer 66, size := 1, bytes := 8, zero := some (.pointer none), agg := false, ck := [.sc] }
def i211 : TI := { desc := .struct #[{ name := "From", type := 3, offset := 0, embedded := false, tag := "", pkgPath := "", byteOffset := 0 }, { name := "Last", type := 4, offset := 1, embedded := false, tag := "", pkgPath := "", byteOffset := 8 }, { name := "Data", type := 22, offset := 2, embedded := false, tag := "", pkgPath := "", byteOffset := 16 }], size := 3, bytes := 40, zero := some (.agg #[.int .i64 0, .bool false, .slice none 0 0]), agg := true, ck := [.sc, .sc, .sl 5] }
def i225 : TI := { desc := .struct #[{ name := "Metric", type := 3, offset := 0, embedded := false, tag := "", pkgPath := "", byteOffset := 0 }, { name := "Via", type := 3, offset := 1, embedded := false, tag := "", pkgPath := "", byteOffset := 8 }, { name := "Age", type := 3, offset := 2, embedded := false, tag := "", pkgPath := "", byteOffset := 16 }], size := 3, bytes := 24, zero := some (.agg #[.int .i64 0, .int .i64 0, .int .i64 0]), agg := true, ck := [.sc, .sc, .sc] }
def i238 : TI := { desc := .struct #[{ name := "From", type := 3, offset := 0, embedded := false, tag := "", pkgPath := "", byteOffset := 0 }, { name := "Last", type := 4, offset := 1, embedded := false, tag := "", pkgPath := "", byteOffset := 8 }, { name := "Data", type := 22, offset := 2, embedded := false, tag := "", pkgPath := "", byteOffset := 16 }], size := 3, bytes := 40, zero := some (.agg #[.int .i64 0, .bool false, .slice none 0 0]), agg := true, ck := [.sc, .sc, .sl 5] }
def i242 : TI := { desc := .struct #[{ name := "Id", type := 3, offset := 0, embedded := false, tag := "", pkgPath := "", byteOffset := 0 }, { name := "Size", type := 3, offset := 1, embedded := false, tag := "", pkgPath := "", byteOffset := 8 }], size := 2, bytes := 16, zero := some (.agg #[.int .i64 0, .int .i64 0]), agg := true, ck := [.sc, .sc] }
def infos : List (Nat × TI) := [(3, i3), (4, i4), (5, i5), (9, i9), (22, i22), (24, i24), (27, i27), (33, i33), (34, i34), (36, i36), (50, i50), (52, i52), (57, i57), (58, i58), (60, i60), (63, i63), (64, i64), (66, i66), (70, i70), (72, i72), (74, i74), (77, i77), (79, i79), (88, i88), (98, i98), (102, i102), (104, i104), (105, i105), (110, i110), (116, i116), (121, i121), (123, i123), (129, i129), (131, i131), (135, i135), (140, i140), (142, i142), (146, i146), (158, i158), (174, i174), (176, i176), (181, i181), (187, i187), (189, i189), (193, i193), (195, i195), (197, i197), (198, i198), (211, i211), (225, i225), (238, i238), (242, i242)]
def info (t : TypeId) : Option TI := lookI infos t
def bytes (e : TypeId) (xs : List Int) : Option (List (T e)) := match e with
  | 5 => some (xs : List Int)
  | _ => none
def ints (e : TypeId) (xs : List (T e)) : Option (List Int) := match e, xs with
  | 5, (xs : List Int) => some xs
  | _, _ => none
def eqF (t : TypeId) : Option (List (Nat × Nat)) := match t with
  | 142 => some [(0, 0), (1, 0), (2, 0)]
  | _ => none
def env : Env := { T, dflt := fun e => (ty e).z, cells, make, info, bytes, ints, eqF }
def set24 (xs : List S24) (j off : Nat) (cs : List (Cell T)) : List S24 := setE env 24 xs j off cs
def set72 (xs : List S72) (j off : Nat) (cs : List (Cell T)) : List S72 := setE env 72 xs j off cs
def set79 (xs : List S79) (j off : Nat) (cs : List (Cell T)) : List S79 := setE env 79 xs j off cs
def set104 (xs : List S104) (j off : Nat) (cs : List (Cell T)) : List S104 := setE env 104 xs j off cs
def set123 (xs : List S123) (j off : Nat) (cs : List (Cell T)) : List S123 := setE env 123 xs j off cs
def set131 (xs : List S131) (j off : Nat) (cs : List (Cell T)) : List S131 := setE env 131 xs j off cs
def set142 (xs : List S142) (j off : Nat) (cs : List (Cell T)) : List S142 := setE env 142 xs j off cs
def set146 (xs : List S146) (j off : Nat) (cs : List (Cell T)) : List S146 := setE env 146 xs j off cs
def set158 (xs : List S158) (j off : Nat) (cs : List (Cell T)) : List S158 := setE env 158 xs j off cs
def set176 (xs : List S176) (j off : Nat) (cs : List (Cell T)) : List S176 := setE env 176 xs j off cs
def set189 (xs : List S189) (j off : Nat) (cs : List (Cell T)) : List S189 := setE env 189 xs j off cs
def set195 (xs : List S195) (j off : Nat) (cs : List (Cell T)) : List S195 := setE env 195 xs j off cs
def set211 (xs : List S211) (j off : Nat) (cs : List (Cell T)) : List S211 := setE env 211 xs j off cs
def set225 (xs : List S225) (j off : Nat) (cs : List (Cell T)) : List S225 := setE env 225 xs j off cs
def set238 (xs : List S238) (j off : Nat) (cs : List (Cell T)) : List S238 := setE env 238 xs j off cs
def set242 (xs : List S242) (j off : Nat) (cs : List (Cell T)) : List S242 := setE env 242 xs j off cs
theorem k3 : Gd Try.prog info 3 i3 := ⟨Try.underlying3, by kernel_rfl, by kernel_rfl⟩
theorem k4 : Gd Try.prog info 4 i4 := ⟨Try.underlying4, by kernel_rfl, by kernel_rfl⟩
theorem k5 : Gd Try.prog info 5 i5 := ⟨Try.underlying5, by kernel_rfl, by kernel_rfl⟩
theorem k9 : Gd Try.prog info 9 i9 := ⟨Try.underlying9, by kernel_rfl, by kernel_rfl⟩
theorem k22 : Gd Try.prog info 22 i22 := ⟨Try.underlying22, by kernel_rfl, by kernel_rfl⟩
theorem k24 : Gd Try.prog info 24 i24 := ⟨Try.underlying24, by kernel_rfl, by kernel_rfl⟩
theorem k27 : Gd Try.prog info 27 i27 := ⟨Try.underlying27, by kernel_rfl, by kernel_rfl⟩
theorem k33 : Gd Try.prog info 33 i33 := ⟨Try.underlying33, by kernel_rfl, by kernel_rfl⟩
theorem k34 : Gd Try.prog info 34 i34 := ⟨Try.underlying34, by kernel_rfl, by kernel_rfl⟩
theorem k36 : Gd Try.prog info 36 i36 := ⟨Try.underlying36, by kernel_rfl, by kernel_rfl⟩
theorem k50 : Gd Try.prog info 50 i50 := ⟨Try.underlying50, by kernel_rfl, by kernel_rfl⟩
theorem k52 : Gd Try.prog info 52 i52 := ⟨Try.underlying52, by kernel_rfl, by kernel_rfl⟩
theorem k57 : Gd Try.prog info 57 i57 := ⟨Try.underlying57, by kernel_rfl, by kernel_rfl⟩
theorem k58 : Gd Try.prog info 58 i58 := ⟨Try.underlying58, by kernel_rfl, by kernel_rfl⟩
theorem k60 : Gd Try.prog info 60 i60 := ⟨Try.underlying60, by kernel_rfl, by kernel_rfl⟩
theorem k63 : Gd Try.prog info 63 i63 := ⟨Try.underlying63, by kernel_rfl, by kernel_rfl⟩
theorem k64 : Gd Try.prog info 64 i64 := ⟨Try.underlying64, by kernel_rfl, by kernel_rfl⟩
theorem k66 : Gd Try.prog info 66 i66 := ⟨Try.underlying66, by kernel_rfl, by kernel_rfl⟩
theorem k70 : Gd Try.prog info 70 i70 := ⟨Try.underlying70, by kernel_rfl, by kernel_rfl⟩
theorem k72 : Gd Try.prog info 72 i72 := ⟨Try.underlying72, by kernel_rfl, by kernel_rfl⟩
theorem k74 : Gd Try.prog info 74 i74 := ⟨Try.underlying74, by kernel_rfl, by kernel_rfl⟩
theorem k77 : Gd Try.prog info 77 i77 := ⟨Try.underlying77, by kernel_rfl, by kernel_rfl⟩
theorem k79 : Gd Try.prog info 79 i79 := ⟨Try.underlying79, by kernel_rfl, by kernel_rfl⟩
theorem k88 : Gd Try.prog info 88 i88 := ⟨Try.underlying88, by kernel_rfl, by kernel_rfl⟩
theorem k98 : Gd Try.prog info 98 i98 := ⟨Try.underlying98, by kernel_rfl, by kernel_rfl⟩
theorem k102 : Gd Try.prog info 102 i102 := ⟨Try.underlying102, by kernel_rfl, by kernel_rfl⟩
theorem k104 : Gd Try.prog info 104 i104 := ⟨Try.underlying104, by kernel_rfl, by kernel_rfl⟩
theorem k105 : Gd Try.prog info 105 i105 := ⟨Try.underlying105, by kernel_rfl, by kernel_rfl⟩
theorem k110 : Gd Try.prog info 110 i110 := ⟨Try.underlying110, by kernel_rfl, by kernel_rfl⟩
theorem k116 : Gd Try.prog info 116 i116 := ⟨Try.underlying116, by kernel_rfl, by kernel_rfl⟩
theorem k121 : Gd Try.prog info 121 i121 := ⟨Try.underlying121, by kernel_rfl, by kernel_rfl⟩
theorem k123 : Gd Try.prog info 123 i123 := ⟨Try.underlying123, by kernel_rfl, by kernel_rfl⟩
theorem k129 : Gd Try.prog info 129 i129 := ⟨Try.underlying129, by kernel_rfl, by kernel_rfl⟩
theorem k131 : Gd Try.prog info 131 i131 := ⟨Try.underlying131, by kernel_rfl, by kernel_rfl⟩
theorem k135 : Gd Try.prog info 135 i135 := ⟨Try.underlying135, by kernel_rfl, by kernel_rfl⟩
theorem k140 : Gd Try.prog info 140 i140 := ⟨Try.underlying140, by kernel_rfl, by kernel_rfl⟩
theorem k142 : Gd Try.prog info 142 i142 := ⟨Try.underlying142, by kernel_rfl, by kernel_rfl⟩
theorem k146 : Gd Try.prog info 146 i146 := ⟨Try.underlying146, by kernel_rfl, by kernel_rfl⟩
theorem k158 : Gd Try.prog info 158 i158 := ⟨Try.underlying158, by kernel_rfl, by kernel_rfl⟩
theorem k174 : Gd Try.prog info 174 i174 := ⟨Try.underlying174, by kernel_rfl, by kernel_rfl⟩
theorem k176 : Gd Try.prog info 176 i176 := ⟨Try.underlying176, by kernel_rfl, by kernel_rfl⟩
theorem k181 : Gd Try.prog info 181 i181 := ⟨Try.underlying181, by kernel_rfl, by kernel_rfl⟩
theorem k187 : Gd Try.prog info 187 i187 := ⟨Try.underlying187, by kernel_rfl, by kernel_rfl⟩
theorem k189 : Gd Try.prog info 189 i189 := ⟨Try.underlying189, by kernel_rfl, by kernel_rfl⟩
theorem k193 : Gd Try.prog info 193 i193 := ⟨Try.underlying193, by kernel_rfl, by kernel_rfl⟩
theorem k195 : Gd Try.prog info 195 i195 := ⟨Try.underlying195, by kernel_rfl, by kernel_rfl⟩
theorem k197 : Gd Try.prog info 197 i197 := ⟨Try.underlying197, by kernel_rfl, by kernel_rfl⟩
theorem k198 : Gd Try.prog info 198 i198 := ⟨Try.underlying198, by kernel_rfl, by kernel_rfl⟩
theorem k211 : Gd Try.prog info 211 i211 := ⟨Try.underlying211, by kernel_rfl, by kernel_rfl⟩
theorem k225 : Gd Try.prog info 225 i225 := ⟨Try.underlying225, by kernel_rfl, by kernel_rfl⟩
theorem k238 : Gd Try.prog info 238 i238 := ⟨Try.underlying238, by kernel_rfl, by kernel_rfl⟩
theorem k242 : Gd Try.prog info 242 i242 := ⟨Try.underlying242, by kernel_rfl, by kernel_rfl⟩
theorem kAll : GdL Try.prog info infos := ⟨k3, k4, k5, k9, k22, k24, k27, k33, k34, k36, k50, k52, k57, k58, k60, k63, k64, k66, k70, k72, k74, k77, k79, k88, k98, k102, k104, k105, k110, k116, k121, k123, k129, k131, k135, k140, k142, k146, k158, k174, k176, k181, k187, k189, k193, k195, k197, k198, k211, k225, k238, k242, trivial⟩
theorem make_ok (e : TypeId) (cs : List (Cell T)) (x : T e) (h : make e cs = some x) : cells e x = cs := by
  unfold make at h
  split at h
  · split at h
    · cases h; rfl
    · cases h
  · split at h
    · cases h; rfl
    · cases h
  · split at h
    · cases h; rfl
    · cases h
  · split at h
    · split at h
      · subst_vars; cases h; rfl
      · cases h
    · cases h
  · split at h
    · split at h
      · subst_vars; cases h; rfl
      · cases h
    · cases h
  · split at h
    · split at h
      · subst_vars; cases h; rfl
      · cases h
    · cases h
  · split at h
    · split at h
      · subst_vars; cases h; rfl
      · cases h
    · cases h
  · split at h
    · split at h
      · subst_vars; cases h; rfl
      · cases h
    · cases h
  · split at h
    · split at h
      · subst_vars; cases h; rfl
      · cases h
    · cases h
  · split at h
    · cases h; rfl
    · cases h
  · split at h
    · split at h
      · subst_vars; cases h; rfl
      · cases h
    · cases h
  · split at h
    · cases h; rfl
    · cases h
  · split at h
    · cases h; rfl
    · cases h
  · split at h
    · cases h; rfl
    · cases h
  · split at h
    · split at h
      · subst_vars; cases h; rfl
      · cases h
    · cases h
  · split at h
    · split at h
      · subst_vars; cases h; rfl
      · cases h
    · cases h
  · split at h
    · split at h
      · subst_vars; cases h; rfl
      · cases h
    · cases h
  · split at h
    · cases h; rfl
    · cases h
  · split at h
    · split at h
      · subst_vars; cases h; rfl
      · cases h
    · cases h
  · split at h
    · cases h; rfl
    · cases h
  · split at h
    · split at h
      · subst_vars; cases h; rfl
      · cases h
    · cases h
  · split at h
    · cases h; rfl
    · cases h
  · cases h
theorem cells_len (e : TypeId) (x : T e) : (cells e x).length = 0 ∨ (cells e x).length = env.sz e := by
  unfold cells
  split
  · exact .inr rfl
  · exact .inr rfl
  · exact .inr rfl
  · exact .inr rfl
  · exact .inr rfl
  · exact .inr rfl
  · exact .inr rfl
  · exact .inr rfl
  · exact .inr rfl
  · exact .inr rfl
  · exact .inr rfl
  · exact .inr rfl
  · exact .inr rfl
  · exact .inr rfl
  · exact .inr rfl
  · exact .inr rfl
  · exact .inr rfl
  · exact .inr rfl
  · exact .inr rfl
  · exact .inr rfl
  · exact .inr rfl
  · exact .inr rfl
  · exact .inl rfl
theorem cells_flat (e : TypeId) (i : TI) (x : T e) (hi : info e = some i) (hf : flat i = true) : (cells e x).all isS = true := by
  unfold cells
  split
  · rfl
  · rfl
  · rfl
  · rw [show i = i24 from (Option.some.inj hi).symm] at hf; cases hf
  · rw [show i = i33 from (Option.some.inj hi).symm] at hf; cases hf
  · rw [show i = i72 from (Option.some.inj hi).symm] at hf; cases hf
  · rw [show i = i79 from (Option.some.inj hi).symm] at hf; cases hf
  · rw [show i = i104 from (Option.some.inj hi).symm] at hf; cases hf
  · rw [show i = i123 from (Option.some.inj hi).symm] at hf; cases hf
  · rfl
  · rw [show i = i140 from (Option.some.inj hi).symm] at hf; cases hf
  · rfl
  · rfl
  · rfl
  · rw [show i = i176 from (Option.some.inj hi).symm] at hf; cases hf
  · rw [show i = i189 from (Option.some.inj hi).symm] at hf; cases hf
  · rw [show i = i193 from (Option.some.inj hi).symm] at hf; cases hf
  · rfl
  · rw [show i = i211 from (Option.some.inj hi).symm] at hf; cases hf
  · rfl
  · rw [show i = i238 from (Option.some.inj hi).symm] at hf; cases hf
  · rfl
  · rfl
theorem bytes_ok (e : TypeId) (xs : List Int) (ys : List (T e)) (i : TI) (h : bytes e xs = some ys) (hi : info e = some i) : (i.size = 1 ∧ i.bytes = 1 ∧ i.zero = some (.int .u8 0)) ∧ ys.length = xs.length ∧ ∀ j, j < xs.length → cells e (ys.getD j (ty e).z) = [.s (.int .u8 (xs.getD j 0))] := by
  unfold bytes at h
  split at h
  · cases h; rw [show i = i5 from (Option.some.inj hi).symm]; exact ⟨⟨rfl, rfl, rfl⟩, rfl, fun j _ => rfl⟩
  · cases h
theorem ints_ok (e : TypeId) (ys : List (T e)) (xs : List Int) (h : ints e ys = some xs) : ys.length = xs.length ∧ ∀ j, j < xs.length → cells e (ys.getD j (ty e).z) = [.s (.int .u8 (xs.getD j 0))] := by
  unfold ints at h
  split at h
  · cases h; exact ⟨rfl, fun j _ => rfl⟩
  · cases h
theorem eq_ok (t : TypeId) (os : List (Nat × Nat)) (h : eqF t = some os) : Try.prog.stoodInHeld t = false ∧ Try.prog.eqGuardType Try.prog.depth t = false ∧ ∃ fs : Array Field, Try.prog.underlying t = some (.struct fs) ∧ EqFs Try.prog fs.toList os := by
  unfold eqF at h
  split at h
  · cases h; exact ⟨by kernel_rfl, by kernel_rfl, _, Try.underlying142, ⟨by decide, rfl, .inl ⟨rfl, _, Try.underlying3⟩, ⟨by decide, rfl, .inl ⟨rfl, _, Try.underlying3⟩, ⟨by decide, rfl, .inl ⟨rfl, _, Try.underlying3⟩, trivial⟩⟩⟩⟩
  · cases h
theorem envOK : EnvOK env Try.prog := envOK_of kAll (fun _ => rfl) make_ok cells_flat cells_len bytes_ok ints_ok (by kernel_rfl) eq_ok
end Go.Proofs.Ytildepkogbcdpaa.B
