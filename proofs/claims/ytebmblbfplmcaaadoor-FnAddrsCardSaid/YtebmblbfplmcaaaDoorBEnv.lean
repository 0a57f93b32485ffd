/- The types of this seat as Lean types, for BDef: written by a program of this session. -/
import Derived.Test.YtebmblbfplmcaaaDoorBEnvOK
import Derived.Test.YtebmblbfplmcaaaDoorProg
import Derived.Lib.LaidTab
import Derived.Lib.ItoaNum
namespace Go.Proofs.YtebmblbfplmcaaaDoor.B
open Go Go.B
set_option linter.unusedVariables false
set_option linter.unusedSimpArgs false
structure Ty where
  α : Type
  z : α
def ty : TypeId → Ty
  | 3 => ⟨Int, (0 : Int)⟩
  | 5 => ⟨Int, (0 : Int)⟩
  | 9 => ⟨ByteArray, ByteArray.empty⟩
  | _ => ⟨Unit, ()⟩
abbrev T (e : TypeId) : Type := (ty e).α
def cl {e : TypeId} (e' : TypeId) (h : e = e') (xs : List (T e)) : List (T e') := h ▸ xs
def cells (e : TypeId) (x : T e) : List (Cell T) := match e, x with
  | 3, (x : Int) => [.s (.int .i64 x)]
  | 5, (x : Int) => [.s (.int .u8 x)]
  | 9, (x : ByteArray) => [.s (.string x)]
  | _, _ => []
def make (e : TypeId) (cs : List (Cell T)) : Option (T e) := match e with
  | 3 => match cs with
    | [.s (.int .i64 a0)] => some (a0 : Int)
    | _ => none
  | 5 => match cs with
    | [.s (.int .u8 a0)] => some (a0 : Int)
    | _ => none
  | 9 => match cs with
    | [.s (.string a0)] => some (a0 : ByteArray)
    | _ => none
  | _ => none
def i2 : TI := { desc := .int .i64, size := 1, bytes := 8, zero := some (.int .i64 0), agg := false, ck := [.sc] }
def i3 : TI := { desc := .int .i64, size := 1, bytes := 8, zero := some (.int .i64 0), agg := false, ck := [.sc] }
def i4 : TI := { desc := .bool, size := 1, bytes := 1, zero := some (.bool false), agg := false, ck := [.sc] }
def i5 : TI := { desc := .int .u8, size := 1, bytes := 1, zero := some (.int .u8 0), agg := false, ck := [.sc] }
def i9 : TI := { desc := .string, size := 1, bytes := 16, zero := some (.string ByteArray.empty), agg := false, ck := [.sc] }
def i21 : TI := { desc := .int .i32, size := 1, bytes := 4, zero := some (.int .i32 0), agg := false, ck := [.sc] }
def i27 : TI := { desc := .slice 5, size := 1, bytes := 24, zero := some (.slice none 0 0), agg := false, ck := [.sl 5] }
def i43 : TI := { desc := .pointer 59, size := 1, bytes := 8, zero := some (.pointer none), agg := false, ck := [.sc] }
def i46 : TI := { desc := .slice 9, size := 1, bytes := 24, zero := some (.slice none 0 0), agg := false, ck := [.sl 9] }
def i49 : TI := { desc := .slice 3, size := 1, bytes := 24, zero := some (.slice none 0 0), agg := false, ck := [.sl 3] }
def i50 : TI := { desc := .int .u64, size := 1, bytes := 8, zero := some (.int .u64 0), agg := false, ck := [.sc] }
def i59 : TI := { desc := .struct #[{ name := "code", type := 27, offset := 0, embedded := false, tag := "", pkgPath := "loop.example/g00202/spec", byteOffset := 0 }, { name := "at", type := 3, offset := 1, embedded := false, tag := "", pkgPath := "loop.example/g00202/spec", byteOffset := 24 }, { name := "seed", type := 3, offset := 2, embedded := false, tag := "", pkgPath := "loop.example/g00202/spec", byteOffset := 32 }], size := 3, bytes := 40, zero := some (.agg #[.slice none 0 0, .int .i64 0, .int .i64 0]), agg := true, ck := [.sl 5, .sc, .sc] }
def i61 : TI := { desc := .pointer 63, size := 1, bytes := 8, zero := some (.pointer none), agg := false, ck := [.sc] }
def i63 : TI := { desc := .struct #[{ name := "addr", type := 61, offset := 0, embedded := false, tag := "", pkgPath := "strings", byteOffset := 0 }, { name := "buf", type := 27, offset := 1, embedded := false, tag := "", pkgPath := "strings", byteOffset := 8 }], size := 2, bytes := 32, zero := some (.agg #[.pointer none, .slice none 0 0]), agg := true, ck := [.sc, .sl 5] }
def i78 : TI := { desc := .pointer 5, size := 1, bytes := 8, zero := some (.pointer none), agg := false, ck := [.sc] }
def i82 : TI := { desc := .array 24 5, size := 24, bytes := 24, zero := some (.agg #[.int .u8 0, .int .u8 0, .int .u8 0, .int .u8 0, .int .u8 0, .int .u8 0, .int .u8 0, .int .u8 0, .int .u8 0, .int .u8 0, .int .u8 0, .int .u8 0, .int .u8 0, .int .u8 0, .int .u8 0, .int .u8 0, .int .u8 0, .int .u8 0, .int .u8 0, .int .u8 0, .int .u8 0, .int .u8 0, .int .u8 0, .int .u8 0]), agg := true, ck := [.sc, .sc, .sc, .sc, .sc, .sc, .sc, .sc, .sc, .sc, .sc, .sc, .sc, .sc, .sc, .sc, .sc, .sc, .sc, .sc, .sc, .sc, .sc, .sc] }
def i83 : TI := { desc := .int .u64, size := 1, bytes := 8, zero := some (.int .u64 0), agg := false, ck := [.sc] }
def i92 : TI := { desc := .int .u32, size := 1, bytes := 4, zero := some (.int .u32 0), agg := false, ck := [.sc] }
def i96 : TI := { desc := .array 20 83, size := 20, bytes := 160, zero := some (.agg #[.int .u64 0, .int .u64 0, .int .u64 0, .int .u64 0, .int .u64 0, .int .u64 0, .int .u64 0, .int .u64 0, .int .u64 0, .int .u64 0, .int .u64 0, .int .u64 0, .int .u64 0, .int .u64 0, .int .u64 0, .int .u64 0, .int .u64 0, .int .u64 0, .int .u64 0, .int .u64 0]), agg := true, ck := [.sc, .sc, .sc, .sc, .sc, .sc, .sc, .sc, .sc, .sc, .sc, .sc, .sc, .sc, .sc, .sc, .sc, .sc, .sc, .sc] }
def i102 : TI := { desc := .struct #[{ name := "lo", type := 5, offset := 0, embedded := false, tag := "", pkgPath := "unicode/utf8", byteOffset := 0 }, { name := "hi", type := 5, offset := 1, embedded := false, tag := "", pkgPath := "unicode/utf8", byteOffset := 1 }], size := 2, bytes := 2, zero := some (.agg #[.int .u8 0, .int .u8 0]), agg := true, ck := [.sc, .sc] }
def i103 : TI := { desc := .array 16 102, size := 32, bytes := 32, zero := some (.agg #[.int .u8 0, .int .u8 0, .int .u8 0, .int .u8 0, .int .u8 0, .int .u8 0, .int .u8 0, .int .u8 0, .int .u8 0, .int .u8 0, .int .u8 0, .int .u8 0, .int .u8 0, .int .u8 0, .int .u8 0, .int .u8 0, .int .u8 0, .int .u8 0, .int .u8 0, .int .u8 0, .int .u8 0, .int .u8 0, .int .u8 0, .int .u8 0, .int .u8 0, .int .u8 0, .int .u8 0, .int .u8 0, .int .u8 0, .int .u8 0, .int .u8 0, .int .u8 0]), agg := true, ck := [.sc, .sc, .sc, .sc, .sc, .sc, .sc, .sc, .sc, .sc, .sc, .sc, .sc, .sc, .sc, .sc, .sc, .sc, .sc, .sc, .sc, .sc, .sc, .sc, .sc, .sc, .sc, .sc, .sc, .sc, .sc, .sc] }
def i104 : TI := { desc := .array 32 5, size := 32, bytes := 32, zero := some (.agg #[.int .u8 0, .int .u8 0, .int .u8 0, .int .u8 0, .int .u8 0, .int .u8 0, .int .u8 0, .int .u8 0, .int .u8 0, .int .u8 0, .int .u8 0, .int .u8 0, .int .u8 0, .int .u8 0, .int .u8 0, .int .u8 0, .int .u8 0, .int .u8 0, .int .u8 0, .int .u8 0, .int .u8 0, .int .u8 0, .int .u8 0, .int .u8 0, .int .u8 0, .int .u8 0, .int .u8 0, .int .u8 0, .int .u8 0, .int .u8 0, .int .u8 0, .int .u8 0]), agg := true, ck := [.sc, .sc, .sc, .sc, .sc, .sc, .sc, .sc, .sc, .sc, .sc, .sc, .sc, .sc, .sc, .sc, .sc, .sc, .sc, .sc, .sc, .sc, .sc, .sc, .sc, .sc, .sc, .sc, .sc, .sc, .sc, .sc] }
def i105 : TI := { desc := .array 64 5, size := 64, bytes := 64, zero := some (.agg #[.int .u8 0, .int .u8 0, .int .u8 0, .int .u8 0, .int .u8 0, .int .u8 0, .int .u8 0, .int .u8 0, .int .u8 0, .int .u8 0, .int .u8 0, .int .u8 0, .int .u8 0, .int .u8 0, .int .u8 0, .int .u8 0, .int .u8 0, .int .u8 0, .int .u8 0, .int .u8 0, .int .u8 0, .int .u8 0, .int .u8 0, .int .u8 0, .int .u8 0, .int .u8 0, .int .u8 0, .int .u8 0, .int .u8 0, .int .u8 0, .int .u8 0, .int .u8 0, .int .u8 0, .int .u8 0, .int .u8 0, .int .u8 0, .int .u8 0, .int .u8 0, .int .u8 0, .int .u8 0, .int .u8 0, .int .u8 0, .int .u8 0, .int .u8 0, .int .u8 0, .int .u8 0, .int .u8 0, .int .u8 0, .int .u8 0, .int .u8 0, .int .u8 0, .int .u8 0, .int .u8 0, .int .u8 0, .int .u8 0, .int .u8 0, .int .u8 0, .int .u8 0, .int .u8 0, .int .u8 0, .int .u8 0, .int .u8 0, .int .u8 0, .int .u8 0]), agg := true, ck := [.sc, .sc, .sc, .sc, .sc, .sc, .sc, .sc, .sc, .sc, .sc, .sc, .sc, .sc, .sc, .sc, .sc, .sc, .sc, .sc, .sc, .sc, .sc, .sc, .sc, .sc, .sc, .sc, .sc, .sc, .sc, .sc, .sc, .sc, .sc, .sc, .sc, .sc, .sc, .sc, .sc, .sc, .sc, .sc, .sc, .sc, .sc, .sc, .sc, .sc, .sc, .sc, .sc, .sc, .sc, .sc, .sc, .sc, .sc, .sc, .sc, .sc, .sc, .sc] }
def infos : List (Nat × TI) := [(2, i2), (3, i3), (4, i4), (5, i5), (9, i9), (21, i21), (27, i27), (43, i43), (46, i46), (49, i49), (50, i50), (59, i59), (61, i61), (63, i63), (78, i78), (82, i82), (83, i83), (92, i92), (96, i96), (102, i102), (103, i103), (104, i104), (105, i105)]
def info (t : TypeId) : Option TI := lookI infos t
def bytes (e : TypeId) (xs : List Int) : Option (List (T e)) := match e with
  | 5 => some (xs : List Int)
  | _ => none
def ints (e : TypeId) (xs : List (T e)) : Option (List Int) := match e, xs with
  | 5, (xs : List Int) => some xs
  | _, _ => none
def eqF (t : TypeId) : Option (List (Nat × Nat)) := match t with
  | _ => none
/-- Block 0 (internal/bytealg.MaxLen) holds a whole number; block 1 internal/strconv's table of powers, block 5 math/bits' table. -/
def gmax (w : World) (I : Nat → Prop) : Prop := (I 0 ∧ I 1 ∧ I 5) ∧ (∃ m, w.cell? ⟨0, 0, none⟩ = some (.int .i64 m)) ∧ Lib.TabIs Tryd.prog w "internal/strconv.uint64pow10" .u64 Lib.pow10Tab ∧ w.cell? ⟨5, 15, none⟩ = some (.int .u8 4)
theorem gmax_ok (w w2 : World) (I I2 : Nat → Prop) (h : gmax w I) (hk : ∀ k, I k → I2 k ∧ w2.heap[k]? = w.heap[k]?) : gmax w2 I2 := by
  obtain ⟨⟨h0, h1, h5⟩, ⟨m, hm⟩, ht, hc⟩ := h
  refine ⟨⟨(hk 0 h0).1, (hk 1 h1).1, (hk 5 h5).1⟩, ⟨m, (cell_keeps (w := w) (w' := w2) (a := ⟨0, 0, none⟩) (hk 0 h0).2).trans hm⟩, ?_, (cell_keeps (w := w) (w' := w2) (a := ⟨5, 15, none⟩) (hk 5 h5).2).trans hc⟩
  unfold Lib.TabIs World.var? at *
  rw [show Tryd.prog.globalNamed "internal/strconv.uint64pow10" = some 1 by kernel_rfl] at *
  simp only [Option.bind_some] at *
  rw [(hk 1 h1).2]; exact ht
def env : Env := { T, dflt := fun e => (ty e).z, cells, make, info, bytes, ints, eqF, glob := gmax }
theorem k2 : Gd Tryd.prog info 2 i2 := ⟨Tryd.underlying2, by kernel_rfl, by kernel_rfl⟩
theorem k3 : Gd Tryd.prog info 3 i3 := ⟨Tryd.underlying3, by kernel_rfl, by kernel_rfl⟩
theorem k4 : Gd Tryd.prog info 4 i4 := ⟨Tryd.underlying4, by kernel_rfl, by kernel_rfl⟩
theorem k5 : Gd Tryd.prog info 5 i5 := ⟨Tryd.underlying5, by kernel_rfl, by kernel_rfl⟩
theorem k9 : Gd Tryd.prog info 9 i9 := ⟨Tryd.underlying9, by kernel_rfl, by kernel_rfl⟩
theorem k21 : Gd Tryd.prog info 21 i21 := ⟨Tryd.underlying21, by kernel_rfl, by kernel_rfl⟩
theorem k27 : Gd Tryd.prog info 27 i27 := ⟨Tryd.underlying27, by kernel_rfl, by kernel_rfl⟩
theorem k43 : Gd Tryd.prog info 43 i43 := ⟨Tryd.underlying43, by kernel_rfl, by kernel_rfl⟩
theorem k46 : Gd Tryd.prog info 46 i46 := ⟨Tryd.underlying46, by kernel_rfl, by kernel_rfl⟩
theorem k49 : Gd Tryd.prog info 49 i49 := ⟨Tryd.underlying49, by kernel_rfl, by kernel_rfl⟩
theorem k50 : Gd Tryd.prog info 50 i50 := ⟨Tryd.underlying50, by kernel_rfl, by kernel_rfl⟩
theorem k59 : Gd Tryd.prog info 59 i59 := ⟨Tryd.underlying59, by kernel_rfl, by kernel_rfl⟩
theorem k61 : Gd Tryd.prog info 61 i61 := ⟨Tryd.underlying61, by kernel_rfl, by kernel_rfl⟩
theorem k63 : Gd Tryd.prog info 63 i63 := ⟨Tryd.underlying63, by kernel_rfl, by kernel_rfl⟩
theorem k78 : Gd Tryd.prog info 78 i78 := ⟨Tryd.underlying78, by kernel_rfl, by kernel_rfl⟩
theorem k82 : Gd Tryd.prog info 82 i82 := ⟨Tryd.underlying82, by kernel_rfl, by kernel_rfl⟩
theorem k83 : Gd Tryd.prog info 83 i83 := ⟨Tryd.underlying83, by kernel_rfl, by kernel_rfl⟩
theorem k92 : Gd Tryd.prog info 92 i92 := ⟨Tryd.underlying92, by kernel_rfl, by kernel_rfl⟩
theorem k96 : Gd Tryd.prog info 96 i96 := ⟨Tryd.underlying96, by kernel_rfl, by kernel_rfl⟩
theorem k102 : Gd Tryd.prog info 102 i102 := ⟨Tryd.underlying102, by kernel_rfl, by kernel_rfl⟩
theorem k103 : Gd Tryd.prog info 103 i103 := ⟨Tryd.underlying103, by kernel_rfl, by kernel_rfl⟩
theorem k104 : Gd Tryd.prog info 104 i104 := ⟨Tryd.underlying104, by kernel_rfl, by kernel_rfl⟩
theorem k105 : Gd Tryd.prog info 105 i105 := ⟨Tryd.underlying105, by kernel_rfl, by kernel_rfl⟩
theorem kAll : GdL Tryd.prog info infos := ⟨k2, k3, k4, k5, k9, k21, k27, k43, k46, k49, k50, k59, k61, k63, k78, k82, k83, k92, k96, k102, k103, k104, k105, trivial⟩
theorem make_ok (e : TypeId) (cs : List (Cell T)) (x : T e) (h : make e cs = some x) : cells e x = cs := by
  unfold make at h
  split at h
  · split at h
    · cases h; rfl
    · cases h
  · split at h
    · cases h; rfl
    · cases h
  · split at h
    · cases h; rfl
    · cases h
  · cases h
theorem cells_len (e : TypeId) (x : T e) : (cells e x).length = 0 ∨ (cells e x).length = env.sz e := by
  unfold cells
  split
  · exact .inr rfl
  · exact .inr rfl
  · exact .inr rfl
  · exact .inl rfl
theorem cells_flat (e : TypeId) (i : TI) (x : T e) (hi : info e = some i) (hf : flat i = true) : (cells e x).all isS = true := by
  unfold cells
  split
  · rfl
  · rfl
  · rfl
  · rfl
theorem bytes_ok (e : TypeId) (xs : List Int) (ys : List (T e)) (i : TI) (h : bytes e xs = some ys) (hi : info e = some i) : (i.size = 1 ∧ i.bytes = 1 ∧ i.zero = some (.int .u8 0)) ∧ ys.length = xs.length ∧ ∀ j, j < xs.length → cells e (ys.getD j (ty e).z) = [.s (.int .u8 (xs.getD j 0))] := by
  unfold bytes at h
  split at h
  · cases h; rw [show i = i5 from (Option.some.inj hi).symm]; exact ⟨⟨rfl, rfl, rfl⟩, rfl, fun j _ => rfl⟩
  · cases h
theorem ints_ok (e : TypeId) (ys : List (T e)) (xs : List Int) (h : ints e ys = some xs) : ys.length = xs.length ∧ ∀ j, j < xs.length → cells e (ys.getD j (ty e).z) = [.s (.int .u8 (xs.getD j 0))] := by
  unfold ints at h
  split at h
  · cases h; exact ⟨rfl, fun j _ => rfl⟩
  · cases h
theorem eq_ok (t : TypeId) (os : List (Nat × Nat)) (h : eqF t = some os) : Tryd.prog.stoodInHeld t = false ∧ Tryd.prog.eqGuardType Tryd.prog.depth t = false ∧ ∃ fs : Array Field, Tryd.prog.underlying t = some (.struct fs) ∧ EqFs Tryd.prog fs.toList os := by
  unfold eqF at h
  split at h
  · cases h
theorem envOK : EnvOK env Tryd.prog := envOK_of kAll (fun _ => rfl) make_ok cells_flat cells_len bytes_ok ints_ok (by kernel_rfl) eq_ok gmax_ok
end Go.Proofs.YtebmblbfplmcaaaDoor.B
