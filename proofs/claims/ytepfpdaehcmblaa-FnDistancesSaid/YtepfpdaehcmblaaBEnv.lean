/- The types of this seat as Lean types, for BDef: written by a program of this session. -/
import Derived.Test.YtepfpdaehcmblaaBEnvOK
import Derived.Test.YtepfpdaehcmblaaProg
namespace Go.Proofs.Ytepfpdaehcmblaa.B
open Go Go.B
set_option linter.unusedVariables false
set_option linter.unusedSimpArgs false
structure S104 where
  f0 : Int
  f1 : Int
  f2 : Int
  f3 : Bool
structure S174 where
  f0 : Int
  f1 : Int
  f2 : Int
structure S35 where
  f0 : Int
  f1 : ByteArray
  f2 : ByteArray
  f3 : Int
  f4 : Int
  f5 : Int
  f6 : Int
  f7 : Bool
  f8 : Bool
  f9 : List Int
structure S117 where
  f0 : Int
  f1 : Bool
  f2 : List Int
structure S112 where
  f0 : ByteArray
  f1 : ByteArray
  f2 : Int
  f3 : Int
  f4 : Int
  f5 : List S117
structure S218 where
  f0 : Int
  f1 : Bool
  f2 : List Int
structure S122 where
  f0 : ByteArray
  f1 : ByteArray
  f2 : Int
  f3 : Int
  f4 : Int
  f5 : List S218
structure S59 where
  f0 : ByteArray
  f1 : Bool
  f2 : Int
  f3 : Int
  f4 : List S59
structure S66 where
  f0 : ByteArray
  f1 : Bool
  f2 : Int
  f3 : Int
  f4 : List S66
structure S207 where
  f0 : Int
  f1 : Int
  f2 : List Bool
structure Ty where
  α : Type
  z : α
def ty : TypeId → Ty
  | 3 => ⟨Int, (0 : Int)⟩
  | 4 => ⟨Bool, false⟩
  | 5 => ⟨Int, (0 : Int)⟩
  | 9 => ⟨ByteArray, ByteArray.empty⟩
  | 22 => ⟨List Int, []⟩
  | 32 => ⟨List Int, []⟩
  | 35 => ⟨S35, ⟨(0 : Int), ByteArray.empty, ByteArray.empty, (0 : Int), (0 : Int), (0 : Int), (0 : Int), false, false, []⟩⟩
  | 59 => ⟨S59, ⟨ByteArray.empty, false, (0 : Int), (0 : Int), []⟩⟩
  | 66 => ⟨S66, ⟨ByteArray.empty, false, (0 : Int), (0 : Int), []⟩⟩
  | 104 => ⟨S104, ⟨(0 : Int), (0 : Int), (0 : Int), false⟩⟩
  | 112 => ⟨S112, ⟨ByteArray.empty, ByteArray.empty, (0 : Int), (0 : Int), (0 : Int), []⟩⟩
  | 117 => ⟨S117, ⟨(0 : Int), false, []⟩⟩
  | 122 => ⟨S122, ⟨ByteArray.empty, ByteArray.empty, (0 : Int), (0 : Int), (0 : Int), []⟩⟩
  | 171 => ⟨List S174, []⟩
  | 174 => ⟨S174, ⟨(0 : Int), (0 : Int), (0 : Int)⟩⟩
  | 207 => ⟨S207, ⟨(0 : Int), (0 : Int), []⟩⟩
  | 218 => ⟨S218, ⟨(0 : Int), false, []⟩⟩
  | _ => ⟨Unit, ()⟩
abbrev T (e : TypeId) : Type := (ty e).α
def cl {e : TypeId} (e' : TypeId) (h : e = e') (xs : List (T e)) : List (T e') := h ▸ xs
def cells (e : TypeId) (x : T e) : List (Cell T) := match e, x with
  | 3, (x : Int) => [.s (.int .i64 x)]
  | 4, (x : Bool) => [.s (.bool x)]
  | 5, (x : Int) => [.s (.int .u8 x)]
  | 9, (x : ByteArray) => [.s (.string x)]
  | 22, (x : List Int) => [.sl 5 x]
  | 32, (x : List Int) => [.sl 3 x]
  | 35, (x : S35) => [.s (.int .i64 x.f0), .s (.string x.f1), .s (.string x.f2), .s (.int .i64 x.f3), .s (.int .i64 x.f4), .s (.int .i64 x.f5), .s (.int .i64 x.f6), .s (.bool x.f7), .s (.bool x.f8), .sl 5 x.f9]
  | 59, (x : S59) => [.s (.string x.f0), .s (.bool x.f1), .s (.int .i64 x.f2), .s (.int .i64 x.f3), .sl 59 x.f4]
  | 66, (x : S66) => [.s (.string x.f0), .s (.bool x.f1), .s (.int .i64 x.f2), .s (.int .i64 x.f3), .sl 66 x.f4]
  | 104, (x : S104) => [.s (.int .i64 x.f0), .s (.int .i64 x.f1), .s (.int .i64 x.f2), .s (.bool x.f3)]
  | 112, (x : S112) => [.s (.string x.f0), .s (.string x.f1), .s (.int .i64 x.f2), .s (.int .i64 x.f3), .s (.int .i64 x.f4), .sl 117 x.f5]
  | 117, (x : S117) => [.s (.int .i64 x.f0), .s (.bool x.f1), .sl 5 x.f2]
  | 122, (x : S122) => [.s (.string x.f0), .s (.string x.f1), .s (.int .i64 x.f2), .s (.int .i64 x.f3), .s (.int .i64 x.f4), .sl 218 x.f5]
  | 171, (x : List S174) => [.sl 174 x]
  | 174, (x : S174) => [.s (.int .i64 x.f0), .s (.int .i64 x.f1), .s (.int .i64 x.f2)]
  | 207, (x : S207) => [.s (.int .i64 x.f0), .s (.int .i64 x.f1), .sl 4 x.f2]
  | 218, (x : S218) => [.s (.int .i64 x.f0), .s (.bool x.f1), .sl 5 x.f2]
  | _, _ => []
def make (e : TypeId) (cs : List (Cell T)) : Option (T e) := match e with
  | 3 => match cs with
    | [.s (.int .i64 a0)] => some (a0 : Int)
    | _ => none
  | 4 => match cs with
    | [.s (.bool a0)] => some (a0 : Bool)
    | _ => none
  | 5 => match cs with
    | [.s (.int .u8 a0)] => some (a0 : Int)
    | _ => none
  | 9 => match cs with
    | [.s (.string a0)] => some (a0 : ByteArray)
    | _ => none
  | 22 => match cs with
    | [.sl e0 a0] => (if h0 : e0 = 5 then some ((cl 5 h0 a0) : List Int) else none)
    | _ => none
  | 32 => match cs with
    | [.sl e0 a0] => (if h0 : e0 = 3 then some ((cl 3 h0 a0) : List Int) else none)
    | _ => none
  | 35 => match cs with
    | [.s (.int .i64 a0), .s (.string a1), .s (.string a2), .s (.int .i64 a3), .s (.int .i64 a4), .s (.int .i64 a5), .s (.int .i64 a6), .s (.bool a7), .s (.bool a8), .sl e9 a9] => (if h9 : e9 = 5 then some (⟨a0, a1, a2, a3, a4, a5, a6, a7, a8, (cl 5 h9 a9)⟩ : S35) else none)
    | _ => none
  | 59 => match cs with
    | [.s (.string a0), .s (.bool a1), .s (.int .i64 a2), .s (.int .i64 a3), .sl e4 a4] => (if h4 : e4 = 59 then some (⟨a0, a1, a2, a3, (cl 59 h4 a4)⟩ : S59) else none)
    | _ => none
  | 66 => match cs with
    | [.s (.string a0), .s (.bool a1), .s (.int .i64 a2), .s (.int .i64 a3), .sl e4 a4] => (if h4 : e4 = 66 then some (⟨a0, a1, a2, a3, (cl 66 h4 a4)⟩ : S66) else none)
    | _ => none
  | 104 => match cs with
    | [.s (.int .i64 a0), .s (.int .i64 a1), .s (.int .i64 a2), .s (.bool a3)] => some (⟨a0, a1, a2, a3⟩ : S104)
    | _ => none
  | 112 => match cs with
    | [.s (.string a0), .s (.string a1), .s (.int .i64 a2), .s (.int .i64 a3), .s (.int .i64 a4), .sl e5 a5] => (if h5 : e5 = 117 then some (⟨a0, a1, a2, a3, a4, (cl 117 h5 a5)⟩ : S112) else none)
    | _ => none
  | 117 => match cs with
    | [.s (.int .i64 a0), .s (.bool a1), .sl e2 a2] => (if h2 : e2 = 5 then some (⟨a0, a1, (cl 5 h2 a2)⟩ : S117) else none)
    | _ => none
  | 122 => match cs with
    | [.s (.string a0), .s (.string a1), .s (.int .i64 a2), .s (.int .i64 a3), .s (.int .i64 a4), .sl e5 a5] => (if h5 : e5 = 218 then some (⟨a0, a1, a2, a3, a4, (cl 218 h5 a5)⟩ : S122) else none)
    | _ => none
  | 171 => match cs with
    | [.sl e0 a0] => (if h0 : e0 = 174 then some ((cl 174 h0 a0) : List S174) else none)
    | _ => none
  | 174 => match cs with
    | [.s (.int .i64 a0), .s (.int .i64 a1), .s (.int .i64 a2)] => some (⟨a0, a1, a2⟩ : S174)
    | _ => none
  | 207 => match cs with
    | [.s (.int .i64 a0), .s (.int .i64 a1), .sl e2 a2] => (if h2 : e2 = 4 then some (⟨a0, a1, (cl 4 h2 a2)⟩ : S207) else none)
    | _ => none
  | 218 => match cs with
    | [.s (.int .i64 a0), .s (.bool a1), .sl e2 a2] => (if h2 : e2 = 5 then some (⟨a0, a1, (cl 5 h2 a2)⟩ : S218) else none)
    | _ => none
  | _ => none
def i3 : TI := { desc := .int .i64, size := 1, bytes := 8, zero := some (.int .i64 0), agg := false, ck := [.sc] }
def i4 : TI := { desc := .bool, size := 1, bytes := 1, zero := some (.bool false), agg := false, ck := [.sc] }
def i5 : TI := { desc := .int .u8, size := 1, bytes := 1, zero := some (.int .u8 0), agg := false, ck := [.sc] }
def i9 : TI := { desc := .string, size := 1, bytes := 16, zero := some (.string ByteArray.empty), agg := false, ck := [.sc] }
def i22 : TI := { desc := .slice 5, size := 1, bytes := 24, zero := some (.slice none 0 0), agg := false, ck := [.sl 5] }
def i23 : TI := { desc := .slice 104, size := 1, bytes := 24, zero := some (.slice none 0 0), agg := false, ck := [.sl 104] }
def i24 : TI := { desc := .slice 171, size := 1, bytes := 24, zero := some (.slice none 0 0), agg := false, ck := [.sl 171] }
def i26 : TI := { desc := .struct #[{ name := "Edges", type := 23, offset := 0, embedded := false, tag := "", pkgPath := "", byteOffset := 0 }, { name := "Tables", type := 24, offset := 1, embedded := false, tag := "", pkgPath := "", byteOffset := 24 }, { name := "Routers", type := 3, offset := 2, embedded := false, tag := "", pkgPath := "", byteOffset := 48 }], size := 3, bytes := 56, zero := some (.agg #[.slice none 0 0, .slice none 0 0, .int .i64 0]), agg := true, ck := [.sl 104, .sl 171, .sc] }
def i28 : TI := { desc := .slice 32, size := 1, bytes := 24, zero := some (.slice none 0 0), agg := false, ck := [.sl 32] }
def i32 : TI := { desc := .slice 3, size := 1, bytes := 24, zero := some (.slice none 0 0), agg := false, ck := [.sl 3] }
def i35 : TI := { desc := .struct #[{ name := "V", type := 3, offset := 0, embedded := false, tag := "", pkgPath := "", byteOffset := 0 }, { name := "From", type := 9, offset := 1, embedded := false, tag := "", pkgPath := "", byteOffset := 8 }, { name := "To", type := 9, offset := 2, embedded := false, tag := "", pkgPath := "", byteOffset := 24 }, { name := "Hop", type := 3, offset := 3, embedded := false, tag := "", pkgPath := "", byteOffset := 40 }, { name := "Proto", type := 3, offset := 4, embedded := false, tag := "", pkgPath := "", byteOffset := 48 }, { name := "Id", type := 3, offset := 5, embedded := false, tag := "", pkgPath := "", byteOffset := 56 }, { name := "Off", type := 3, offset := 6, embedded := false, tag := "", pkgPath := "", byteOffset := 64 }, { name := "More", type := 4, offset := 7, embedded := false, tag := "", pkgPath := "", byteOffset := 72 }, { name := "Keep", type := 4, offset := 8, embedded := false, tag := "", pkgPath := "", byteOffset := 73 }, { name := "Data", type := 22, offset := 9, embedded := false, tag := "", pkgPath := "", byteOffset := 80 }], size := 10, bytes := 104, zero := some (.agg #[.int .i64 0, .string ByteArray.empty, .string ByteArray.empty, .int .i64 0, .int .i64 0, .int .i64 0, .int .i64 0, .bool false, .bool false, .slice none 0 0]), agg := true, ck := [.sc, .sc, .sc, .sc, .sc, .sc, .sc, .sc, .sc, .sl 5] }
def i37 : TI := { desc := .slice 35, size := 1, bytes := 24, zero := some (.slice none 0 0), agg := false, ck := [.sl 35] }
def i41 : TI := { desc := .slice 112, size := 1, bytes := 24, zero := some (.slice none 0 0), agg := false, ck := [.sl 112] }
def i47 : TI := { desc := .slice 122, size := 1, bytes := 24, zero := some (.slice none 0 0), agg := false, ck := [.sl 122] }
def i48 : TI := { desc := .struct #[{ name := "V", type := 3, offset := 0, embedded := false, tag := "", pkgPath := "", byteOffset := 0 }, { name := "From", type := 9, offset := 1, embedded := false, tag := "", pkgPath := "", byteOffset := 8 }, { name := "To", type := 9, offset := 2, embedded := false, tag := "", pkgPath := "", byteOffset := 24 }, { name := "Hop", type := 3, offset := 3, embedded := false, tag := "", pkgPath := "", byteOffset := 40 }, { name := "Proto", type := 3, offset := 4, embedded := false, tag := "", pkgPath := "", byteOffset := 48 }, { name := "Id", type := 3, offset := 5, embedded := false, tag := "", pkgPath := "", byteOffset := 56 }, { name := "Off", type := 3, offset := 6, embedded := false, tag := "", pkgPath := "", byteOffset := 64 }, { name := "More", type := 4, offset := 7, embedded := false, tag := "", pkgPath := "", byteOffset := 72 }, { name := "Keep", type := 4, offset := 8, embedded := false, tag := "", pkgPath := "", byteOffset := 73 }, { name := "Data", type := 22, offset := 9, embedded := false, tag := "", pkgPath := "", byteOffset := 80 }], size := 10, bytes := 104, zero := some (.agg #[.int .i64 0, .string ByteArray.empty, .string ByteArray.empty, .int .i64 0, .int .i64 0, .int .i64 0, .int .i64 0, .bool false, .bool false, .slice none 0 0]), agg := true, ck := [.sc, .sc, .sc, .sc, .sc, .sc, .sc, .sc, .sc, .sl 5] }
def i57 : TI := { desc := .slice 59, size := 1, bytes := 24, zero := some (.slice none 0 0), agg := false, ck := [.sl 59] }
def i59 : TI := { desc := .struct #[{ name := "Bits", type := 9, offset := 0, embedded := false, tag := "", pkgPath := "", byteOffset := 0 }, { name := "Has", type := 4, offset := 1, embedded := false, tag := "", pkgPath := "", byteOffset := 16 }, { name := "Via", type := 3, offset := 2, embedded := false, tag := "", pkgPath := "", byteOffset := 24 }, { name := "Metric", type := 3, offset := 3, embedded := false, tag := "", pkgPath := "", byteOffset := 32 }, { name := "Kids", type := 57, offset := 4, embedded := false, tag := "", pkgPath := "", byteOffset := 40 }], size := 5, bytes := 64, zero := some (.agg #[.string ByteArray.empty, .bool false, .int .i64 0, .int .i64 0, .slice none 0 0]), agg := true, ck := [.sc, .sc, .sc, .sc, .sl 59] }
def i61 : TI := { desc := .struct #[{ name := "Bits", type := 9, offset := 0, embedded := false, tag := "", pkgPath := "", byteOffset := 0 }, { name := "Via", type := 3, offset := 1, embedded := false, tag := "", pkgPath := "", byteOffset := 16 }, { name := "Metric", type := 3, offset := 2, embedded := false, tag := "", pkgPath := "", byteOffset := 24 }], size := 3, bytes := 32, zero := some (.agg #[.string ByteArray.empty, .int .i64 0, .int .i64 0]), agg := true, ck := [.sc, .sc, .sc] }
def i64 : TI := { desc := .slice 66, size := 1, bytes := 24, zero := some (.slice none 0 0), agg := false, ck := [.sl 66] }
def i66 : TI := { desc := .struct #[{ name := "Bits", type := 9, offset := 0, embedded := false, tag := "", pkgPath := "", byteOffset := 0 }, { name := "Has", type := 4, offset := 1, embedded := false, tag := "", pkgPath := "", byteOffset := 16 }, { name := "Via", type := 3, offset := 2, embedded := false, tag := "", pkgPath := "", byteOffset := 24 }, { name := "Metric", type := 3, offset := 3, embedded := false, tag := "", pkgPath := "", byteOffset := 32 }, { name := "Kids", type := 64, offset := 4, embedded := false, tag := "", pkgPath := "", byteOffset := 40 }], size := 5, bytes := 64, zero := some (.agg #[.string ByteArray.empty, .bool false, .int .i64 0, .int .i64 0, .slice none 0 0]), agg := true, ck := [.sc, .sc, .sc, .sc, .sl 66] }
def i70 : TI := { desc := .struct #[{ name := "Bits", type := 9, offset := 0, embedded := false, tag := "", pkgPath := "", byteOffset := 0 }, { name := "Via", type := 3, offset := 1, embedded := false, tag := "", pkgPath := "", byteOffset := 16 }, { name := "Metric", type := 3, offset := 2, embedded := false, tag := "", pkgPath := "", byteOffset := 24 }], size := 3, bytes := 32, zero := some (.agg #[.string ByteArray.empty, .int .i64 0, .int .i64 0]), agg := true, ck := [.sc, .sc, .sc] }
def i75 : TI := { desc := .slice 9, size := 1, bytes := 24, zero := some (.slice none 0 0), agg := false, ck := [.sl 9] }
def i77 : TI := { desc := .struct #[{ name := "Four", type := 66, offset := 0, embedded := false, tag := "", pkgPath := "", byteOffset := 0 }, { name := "Six", type := 66, offset := 5, embedded := false, tag := "", pkgPath := "", byteOffset := 64 }, { name := "Own", type := 75, offset := 10, embedded := false, tag := "", pkgPath := "", byteOffset := 128 }, { name := "Mtus", type := 32, offset := 11, embedded := false, tag := "", pkgPath := "", byteOffset := 152 }], size := 12, bytes := 176, zero := some (.agg #[.string ByteArray.empty, .bool false, .int .i64 0, .int .i64 0, .slice none 0 0, .string ByteArray.empty, .bool false, .int .i64 0, .int .i64 0, .slice none 0 0, .slice none 0 0, .slice none 0 0]), agg := true, ck := [.sc, .sc, .sc, .sc, .sl 66, .sc, .sc, .sc, .sc, .sl 66, .sl 9, .sl 3] }
def i87 : TI := { desc := .slice 22, size := 1, bytes := 24, zero := some (.slice none 0 0), agg := false, ck := [.sl 22] }
def i89 : TI := { desc := .struct #[{ name := "Kind", type := 3, offset := 0, embedded := false, tag := "", pkgPath := "", byteOffset := 0 }, { name := "Code", type := 3, offset := 1, embedded := false, tag := "", pkgPath := "", byteOffset := 8 }, { name := "Port", type := 3, offset := 2, embedded := false, tag := "", pkgPath := "", byteOffset := 16 }, { name := "Frames", type := 87, offset := 3, embedded := false, tag := "", pkgPath := "", byteOffset := 24 }], size := 4, bytes := 48, zero := some (.agg #[.int .i64 0, .int .i64 0, .int .i64 0, .slice none 0 0]), agg := true, ck := [.sc, .sc, .sc, .sl 22] }
def i99 : TI := { desc := .pointer 161, size := 1, bytes := 8, zero := some (.pointer none), agg := false, ck := [.sc] }
def i104 : TI := { desc := .struct #[{ name := "A", type := 3, offset := 0, embedded := false, tag := "", pkgPath := "", byteOffset := 0 }, { name := "B", type := 3, offset := 1, embedded := false, tag := "", pkgPath := "", byteOffset := 8 }, { name := "Cost", type := 3, offset := 2, embedded := false, tag := "", pkgPath := "", byteOffset := 16 }, { name := "Up", type := 4, offset := 3, embedded := false, tag := "", pkgPath := "", byteOffset := 24 }], size := 4, bytes := 32, zero := some (.agg #[.int .i64 0, .int .i64 0, .int .i64 0, .bool false]), agg := true, ck := [.sc, .sc, .sc, .sc] }
def i110 : TI := { desc := .slice 117, size := 1, bytes := 24, zero := some (.slice none 0 0), agg := false, ck := [.sl 117] }
def i112 : TI := { desc := .struct #[{ name := "From", type := 9, offset := 0, embedded := false, tag := "", pkgPath := "", byteOffset := 0 }, { name := "To", type := 9, offset := 1, embedded := false, tag := "", pkgPath := "", byteOffset := 16 }, { name := "Id", type := 3, offset := 2, embedded := false, tag := "", pkgPath := "", byteOffset := 32 }, { name := "Proto", type := 3, offset := 3, embedded := false, tag := "", pkgPath := "", byteOffset := 40 }, { name := "Ends", type := 3, offset := 4, embedded := false, tag := "", pkgPath := "", byteOffset := 48 }, { name := "Pieces", type := 110, offset := 5, embedded := false, tag := "", pkgPath := "", byteOffset := 56 }], size := 6, bytes := 80, zero := some (.agg #[.string ByteArray.empty, .string ByteArray.empty, .int .i64 0, .int .i64 0, .int .i64 0, .slice none 0 0]), agg := true, ck := [.sc, .sc, .sc, .sc, .sc, .sl 117] }
def i117 : TI := { desc := .struct #[{ name := "From", type := 3, offset := 0, embedded := false, tag := "", pkgPath := "", byteOffset := 0 }, { name := "Last", type := 4, offset := 1, embedded := false, tag := "", pkgPath := "", byteOffset := 8 }, { name := "Data", type := 22, offset := 2, embedded := false, tag := "", pkgPath := "", byteOffset := 16 }], size := 3, bytes := 40, zero := some (.agg #[.int .i64 0, .bool false, .slice none 0 0]), agg := true, ck := [.sc, .sc, .sl 5] }
def i120 : TI := { desc := .slice 218, size := 1, bytes := 24, zero := some (.slice none 0 0), agg := false, ck := [.sl 218] }
def i122 : TI := { desc := .struct #[{ name := "From", type := 9, offset := 0, embedded := false, tag := "", pkgPath := "", byteOffset := 0 }, { name := "To", type := 9, offset := 1, embedded := false, tag := "", pkgPath := "", byteOffset := 16 }, { name := "Id", type := 3, offset := 2, embedded := false, tag := "", pkgPath := "", byteOffset := 32 }, { name := "Proto", type := 3, offset := 3, embedded := false, tag := "", pkgPath := "", byteOffset := 40 }, { name := "Ends", type := 3, offset := 4, embedded := false, tag := "", pkgPath := "", byteOffset := 48 }, { name := "Pieces", type := 120, offset := 5, embedded := false, tag := "", pkgPath := "", byteOffset := 56 }], size := 6, bytes := 80, zero := some (.agg #[.string ByteArray.empty, .string ByteArray.empty, .int .i64 0, .int .i64 0, .int .i64 0, .slice none 0 0]), agg := true, ck := [.sc, .sc, .sc, .sc, .sc, .sl 218] }
def i136 : TI := { desc := .pointer 66, size := 1, bytes := 8, zero := some (.pointer none), agg := false, ck := [.sc] }
def i159 : TI := { desc := .int .u64, size := 1, bytes := 8, zero := some (.int .u64 0), agg := false, ck := [.sc] }
def i161 : TI := { desc := .struct #[{ name := "code", type := 22, offset := 0, embedded := false, tag := "", pkgPath := "loop.example/g00202/spec", byteOffset := 0 }, { name := "at", type := 3, offset := 1, embedded := false, tag := "", pkgPath := "loop.example/g00202/spec", byteOffset := 24 }, { name := "seed", type := 3, offset := 2, embedded := false, tag := "", pkgPath := "loop.example/g00202/spec", byteOffset := 32 }], size := 3, bytes := 40, zero := some (.agg #[.slice none 0 0, .int .i64 0, .int .i64 0]), agg := true, ck := [.sl 5, .sc, .sc] }
def i168 : TI := { desc := .slice 207, size := 1, bytes := 24, zero := some (.slice none 0 0), agg := false, ck := [.sl 207] }
def i171 : TI := { desc := .slice 174, size := 1, bytes := 24, zero := some (.slice none 0 0), agg := false, ck := [.sl 174] }
def i174 : TI := { desc := .struct #[{ name := "Metric", type := 3, offset := 0, embedded := false, tag := "", pkgPath := "", byteOffset := 0 }, { name := "Via", type := 3, offset := 1, embedded := false, tag := "", pkgPath := "", byteOffset := 8 }, { name := "Age", type := 3, offset := 2, embedded := false, tag := "", pkgPath := "", byteOffset := 16 }], size := 3, bytes := 24, zero := some (.agg #[.int .i64 0, .int .i64 0, .int .i64 0]), agg := true, ck := [.sc, .sc, .sc] }
def i205 : TI := { desc := .slice 4, size := 1, bytes := 24, zero := some (.slice none 0 0), agg := false, ck := [.sl 4] }
def i207 : TI := { desc := .struct #[{ name := "Kind", type := 3, offset := 0, embedded := false, tag := "", pkgPath := "", byteOffset := 0 }, { name := "Edge", type := 3, offset := 1, embedded := false, tag := "", pkgPath := "", byteOffset := 8 }, { name := "Lost", type := 205, offset := 2, embedded := false, tag := "", pkgPath := "", byteOffset := 16 }], size := 3, bytes := 40, zero := some (.agg #[.int .i64 0, .int .i64 0, .slice none 0 0]), agg := true, ck := [.sc, .sc, .sl 4] }
def i211 : TI := { desc := .array 5 4, size := 5, bytes := 5, zero := some (.agg #[.bool false, .bool false, .bool false, .bool false, .bool false]), agg := true, ck := [.sc, .sc, .sc, .sc, .sc] }
def i212 : TI := { desc := .array 5 211, size := 25, bytes := 25, zero := some (.agg #[.bool false, .bool false, .bool false, .bool false, .bool false, .bool false, .bool false, .bool false, .bool false, .bool false, .bool false, .bool false, .bool false, .bool false, .bool false, .bool false, .bool false, .bool false, .bool false, .bool false, .bool false, .bool false, .bool false, .bool false, .bool false]), agg := true, ck := [.sc, .sc, .sc, .sc, .sc, .sc, .sc, .sc, .sc, .sc, .sc, .sc, .sc, .sc, .sc, .sc, .sc, .sc, .sc, .sc, .sc, .sc, .sc, .sc, .sc] }
def i213 : TI := { desc := .pointer 26, size := 1, bytes := 8, zero := some (.pointer none), agg := false, ck := [.sc] }
def i218 : TI := { desc := .struct #[{ name := "From", type := 3, offset := 0, embedded := false, tag := "", pkgPath := "", byteOffset := 0 }, { name := "Last", type := 4, offset := 1, embedded := false, tag := "", pkgPath := "", byteOffset := 8 }, { name := "Data", type := 22, offset := 2, embedded := false, tag := "", pkgPath := "", byteOffset := 16 }], size := 3, bytes := 40, zero := some (.agg #[.int .i64 0, .bool false, .slice none 0 0]), agg := true, ck := [.sc, .sc, .sl 5] }
def infos : List (Nat × TI) := [(3, i3), (4, i4), (5, i5), (9, i9), (22, i22), (23, i23), (24, i24), (26, i26), (28, i28), (32, i32), (35, i35), (37, i37), (41, i41), (47, i47), (48, i48), (57, i57), (59, i59), (61, i61), (64, i64), (66, i66), (70, i70), (75, i75), (77, i77), (87, i87), (89, i89), (99, i99), (104, i104), (110, i110), (112, i112), (117, i117), (120, i120), (122, i122), (136, i136), (159, i159), (161, i161), (168, i168), (171, i171), (174, i174), (205, i205), (207, i207), (211, i211), (212, i212), (213, i213), (218, i218)]
def info (t : TypeId) : Option TI := lookI infos t
def bytes (e : TypeId) (xs : List Int) : Option (List (T e)) := match e with
  | 5 => some (xs : List Int)
  | _ => none
def ints (e : TypeId) (xs : List (T e)) : Option (List Int) := match e, xs with
  | 5, (xs : List Int) => some xs
  | _, _ => none
def eqF (t : TypeId) : Option (List (Nat × Nat)) := match t with
  | 174 => some [(0, 0), (1, 0), (2, 0)]
  | _ => none
def env : Env := { T, dflt := fun e => (ty e).z, cells, make, info, bytes, ints, eqF }
def set35 (xs : List S35) (j off : Nat) (cs : List (Cell T)) : List S35 := setE env 35 xs j off cs
def set59 (xs : List S59) (j off : Nat) (cs : List (Cell T)) : List S59 := setE env 59 xs j off cs
def set66 (xs : List S66) (j off : Nat) (cs : List (Cell T)) : List S66 := setE env 66 xs j off cs
def set104 (xs : List S104) (j off : Nat) (cs : List (Cell T)) : List S104 := setE env 104 xs j off cs
def set112 (xs : List S112) (j off : Nat) (cs : List (Cell T)) : List S112 := setE env 112 xs j off cs
def set117 (xs : List S117) (j off : Nat) (cs : List (Cell T)) : List S117 := setE env 117 xs j off cs
def set122 (xs : List S122) (j off : Nat) (cs : List (Cell T)) : List S122 := setE env 122 xs j off cs
def set174 (xs : List S174) (j off : Nat) (cs : List (Cell T)) : List S174 := setE env 174 xs j off cs
def set207 (xs : List S207) (j off : Nat) (cs : List (Cell T)) : List S207 := setE env 207 xs j off cs
def set218 (xs : List S218) (j off : Nat) (cs : List (Cell T)) : List S218 := setE env 218 xs j off cs
theorem k3 : Gd Try.prog info 3 i3 := ⟨Try.underlying3, by kernel_rfl, by kernel_rfl⟩
theorem k4 : Gd Try.prog info 4 i4 := ⟨Try.underlying4, by kernel_rfl, by kernel_rfl⟩
theorem k5 : Gd Try.prog info 5 i5 := ⟨Try.underlying5, by kernel_rfl, by kernel_rfl⟩
theorem k9 : Gd Try.prog info 9 i9 := ⟨Try.underlying9, by kernel_rfl, by kernel_rfl⟩
theorem k22 : Gd Try.prog info 22 i22 := ⟨Try.underlying22, by kernel_rfl, by kernel_rfl⟩
theorem k23 : Gd Try.prog info 23 i23 := ⟨Try.underlying23, by kernel_rfl, by kernel_rfl⟩
theorem k24 : Gd Try.prog info 24 i24 := ⟨Try.underlying24, by kernel_rfl, by kernel_rfl⟩
theorem k26 : Gd Try.prog info 26 i26 := ⟨Try.underlying26, by kernel_rfl, by kernel_rfl⟩
theorem k28 : Gd Try.prog info 28 i28 := ⟨Try.underlying28, by kernel_rfl, by kernel_rfl⟩
theorem k32 : Gd Try.prog info 32 i32 := ⟨Try.underlying32, by kernel_rfl, by kernel_rfl⟩
theorem k35 : Gd Try.prog info 35 i35 := ⟨Try.underlying35, by kernel_rfl, by kernel_rfl⟩
theorem k37 : Gd Try.prog info 37 i37 := ⟨Try.underlying37, by kernel_rfl, by kernel_rfl⟩
theorem k41 : Gd Try.prog info 41 i41 := ⟨Try.underlying41, by kernel_rfl, by kernel_rfl⟩
theorem k47 : Gd Try.prog info 47 i47 := ⟨Try.underlying47, by kernel_rfl, by kernel_rfl⟩
theorem k48 : Gd Try.prog info 48 i48 := ⟨Try.underlying48, by kernel_rfl, by kernel_rfl⟩
theorem k57 : Gd Try.prog info 57 i57 := ⟨Try.underlying57, by kernel_rfl, by kernel_rfl⟩
theorem k59 : Gd Try.prog info 59 i59 := ⟨Try.underlying59, by kernel_rfl, by kernel_rfl⟩
theorem k61 : Gd Try.prog info 61 i61 := ⟨Try.underlying61, by kernel_rfl, by kernel_rfl⟩
theorem k64 : Gd Try.prog info 64 i64 := ⟨Try.underlying64, by kernel_rfl, by kernel_rfl⟩
theorem k66 : Gd Try.prog info 66 i66 := ⟨Try.underlying66, by kernel_rfl, by kernel_rfl⟩
theorem k70 : Gd Try.prog info 70 i70 := ⟨Try.underlying70, by kernel_rfl, by kernel_rfl⟩
theorem k75 : Gd Try.prog info 75 i75 := ⟨Try.underlying75, by kernel_rfl, by kernel_rfl⟩
theorem k77 : Gd Try.prog info 77 i77 := ⟨Try.underlying77, by kernel_rfl, by kernel_rfl⟩
theorem k87 : Gd Try.prog info 87 i87 := ⟨Try.underlying87, by kernel_rfl, by kernel_rfl⟩
theorem k89 : Gd Try.prog info 89 i89 := ⟨Try.underlying89, by kernel_rfl, by kernel_rfl⟩
theorem k99 : Gd Try.prog info 99 i99 := ⟨Try.underlying99, by kernel_rfl, by kernel_rfl⟩
theorem k104 : Gd Try.prog info 104 i104 := ⟨Try.underlying104, by kernel_rfl, by kernel_rfl⟩
theorem k110 : Gd Try.prog info 110 i110 := ⟨Try.underlying110, by kernel_rfl, by kernel_rfl⟩
theorem k112 : Gd Try.prog info 112 i112 := ⟨Try.underlying112, by kernel_rfl, by kernel_rfl⟩
theorem k117 : Gd Try.prog info 117 i117 := ⟨Try.underlying117, by kernel_rfl, by kernel_rfl⟩
theorem k120 : Gd Try.prog info 120 i120 := ⟨Try.underlying120, by kernel_rfl, by kernel_rfl⟩
theorem k122 : Gd Try.prog info 122 i122 := ⟨Try.underlying122, by kernel_rfl, by kernel_rfl⟩
theorem k136 : Gd Try.prog info 136 i136 := ⟨Try.underlying136, by kernel_rfl, by kernel_rfl⟩
theorem k159 : Gd Try.prog info 159 i159 := ⟨Try.underlying159, by kernel_rfl, by kernel_rfl⟩
theorem k161 : Gd Try.prog info 161 i161 := ⟨Try.underlying161, by kernel_rfl, by kernel_rfl⟩
theorem k168 : Gd Try.prog info 168 i168 := ⟨Try.underlying168, by kernel_rfl, by kernel_rfl⟩
theorem k171 : Gd Try.prog info 171 i171 := ⟨Try.underlying171, by kernel_rfl, by kernel_rfl⟩
theorem k174 : Gd Try.prog info 174 i174 := ⟨Try.underlying174, by kernel_rfl, by kernel_rfl⟩
theorem k205 : Gd Try.prog info 205 i205 := ⟨Try.underlying205, by kernel_rfl, by kernel_rfl⟩
theorem k207 : Gd Try.prog info 207 i207 := ⟨Try.underlying207, by kernel_rfl, by kernel_rfl⟩
theorem k211 : Gd Try.prog info 211 i211 := ⟨Try.underlying211, by kernel_rfl, by kernel_rfl⟩
theorem k212 : Gd Try.prog info 212 i212 := ⟨Try.underlying212, by kernel_rfl, by kernel_rfl⟩
theorem k213 : Gd Try.prog info 213 i213 := ⟨Try.underlying213, by kernel_rfl, by kernel_rfl⟩
theorem k218 : Gd Try.prog info 218 i218 := ⟨Try.underlying218, by kernel_rfl, by kernel_rfl⟩
theorem kAll : GdL Try.prog info infos := ⟨k3, k4, k5, k9, k22, k23, k24, k26, k28, k32, k35, k37, k41, k47, k48, k57, k59, k61, k64, k66, k70, k75, k77, k87, k89, k99, k104, k110, k112, k117, k120, k122, k136, k159, k161, k168, k171, k174, k205, k207, k211, k212, k213, k218, trivial⟩
theorem make_ok (e : TypeId) (cs : List (Cell T)) (x : T e) (h : make e cs = some x) : cells e x = cs := by
  unfold make at h
  split at h
  · split at h
    · cases h; rfl
    · cases h
  · split at h
    · cases h; rfl
    · cases h
  · split at h
    · cases h; rfl
    · cases h
  · split at h
    · cases h; rfl
    · cases h
  · split at h
    · split at h
      · subst_vars; cases h; rfl
      · cases h
    · cases h
  · split at h
    · split at h
      · subst_vars; cases h; rfl
      · cases h
    · cases h
  · split at h
    · split at h
      · subst_vars; cases h; rfl
      · cases h
    · cases h
  · split at h
    · split at h
      · subst_vars; cases h; rfl
      · cases h
    · cases h
  · split at h
    · split at h
      · subst_vars; cases h; rfl
      · cases h
    · cases h
  · split at h
    · cases h; rfl
    · cases h
  · split at h
    · split at h
      · subst_vars; cases h; rfl
      · cases h
    · cases h
  · split at h
    · split at h
      · subst_vars; cases h; rfl
      · cases h
    · cases h
  · split at h
    · split at h
      · subst_vars; cases h; rfl
      · cases h
    · cases h
  · split at h
    · split at h
      · subst_vars; cases h; rfl
      · cases h
    · cases h
  · split at h
    · cases h; rfl
    · cases h
  · split at h
    · split at h
      · subst_vars; cases h; rfl
      · cases h
    · cases h
  · split at h
    · split at h
      · subst_vars; cases h; rfl
      · cases h
    · cases h
  · cases h
theorem cells_len (e : TypeId) (x : T e) : (cells e x).length = 0 ∨ (cells e x).length = env.sz e := by
  unfold cells
  split
  · exact .inr rfl
  · exact .inr rfl
  · exact .inr rfl
  · exact .inr rfl
  · exact .inr rfl
  · exact .inr rfl
  · exact .inr rfl
  · exact .inr rfl
  · exact .inr rfl
  · exact .inr rfl
  · exact .inr rfl
  · exact .inr rfl
  · exact .inr rfl
  · exact .inr rfl
  · exact .inr rfl
  · exact .inr rfl
  · exact .inr rfl
  · exact .inl rfl
theorem cells_flat (e : TypeId) (i : TI) (x : T e) (hi : info e = some i) (hf : flat i = true) : (cells e x).all isS = true := by
  unfold cells
  split
  · rfl
  · rfl
  · rfl
  · rfl
  · rw [show i = i22 from (Option.some.inj hi).symm] at hf; cases hf
  · rw [show i = i32 from (Option.some.inj hi).symm] at hf; cases hf
  · rw [show i = i35 from (Option.some.inj hi).symm] at hf; cases hf
  · rw [show i = i59 from (Option.some.inj hi).symm] at hf; cases hf
  · rw [show i = i66 from (Option.some.inj hi).symm] at hf; cases hf
  · rfl
  · rw [show i = i112 from (Option.some.inj hi).symm] at hf; cases hf
  · rw [show i = i117 from (Option.some.inj hi).symm] at hf; cases hf
  · rw [show i = i122 from (Option.some.inj hi).symm] at hf; cases hf
  · rw [show i = i171 from (Option.some.inj hi).symm] at hf; cases hf
  · rfl
  · rw [show i = i207 from (Option.some.inj hi).symm] at hf; cases hf
  · rw [show i = i218 from (Option.some.inj hi).symm] at hf; cases hf
  · rfl
theorem bytes_ok (e : TypeId) (xs : List Int) (ys : List (T e)) (i : TI) (h : bytes e xs = some ys) (hi : info e = some i) : (i.size = 1 ∧ i.bytes = 1 ∧ i.zero = some (.int .u8 0)) ∧ ys.length = xs.length ∧ ∀ j, j < xs.length → cells e (ys.getD j (ty e).z) = [.s (.int .u8 (xs.getD j 0))] := by
  unfold bytes at h
  split at h
  · cases h; rw [show i = i5 from (Option.some.inj hi).symm]; exact ⟨⟨rfl, rfl, rfl⟩, rfl, fun j _ => rfl⟩
  · cases h
theorem ints_ok (e : TypeId) (ys : List (T e)) (xs : List Int) (h : ints e ys = some xs) : ys.length = xs.length ∧ ∀ j, j < xs.length → cells e (ys.getD j (ty e).z) = [.s (.int .u8 (xs.getD j 0))] := by
  unfold ints at h
  split at h
  · cases h; exact ⟨rfl, fun j _ => rfl⟩
  · cases h
theorem eq_ok (t : TypeId) (os : List (Nat × Nat)) (h : eqF t = some os) : Try.prog.stoodInHeld t = false ∧ Try.prog.eqGuardType Try.prog.depth t = false ∧ ∃ fs : Array Field, Try.prog.underlying t = some (.struct fs) ∧ EqFs Try.prog fs.toList os := by
  unfold eqF at h
  split at h
  · cases h; exact ⟨by kernel_rfl, by kernel_rfl, _, Try.underlying174, ⟨by decide, rfl, .inl ⟨rfl, _, Try.underlying3⟩, ⟨by decide, rfl, .inl ⟨rfl, _, Try.underlying3⟩, ⟨by decide, rfl, .inl ⟨rfl, _, Try.underlying3⟩, trivial⟩⟩⟩⟩
  · cases h
theorem envOK : EnvOK env Try.prog := envOK_of kAll (fun _ => rfl) make_ok cells_flat cells_len bytes_ok ints_ok (by kernel_rfl) eq_ok
end Go.Proofs.Ytepfpdaehcmblaa.B
