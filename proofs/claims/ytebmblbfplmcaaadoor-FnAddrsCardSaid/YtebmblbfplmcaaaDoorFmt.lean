/- strconv.FormatInt at base 16. -/
import Derived.Test.YtebmblbfplmcaaaDoorProg
import Derived.WalkKit
import Derived.Deep.QuietTactic
import Derived.BigQuiet
import Derived.Lib.Walk
import Derived.Lib.ItoaMem
import Derived.BigCall
import Derived.BigGuard
import Derived.CellFam
import Derived.RegionTactic
import Derived.Shelf.Abstract
import Derived.Lib.ItoaWalk
import Derived.LoopTactic
import Derived.Laws.Bits64b
namespace Go.Proofs.YtebmblbfplmcaaaDoor.Fmt
open Go Go.RowKit Go.Sort Go.Lib
set_option linter.unusedVariables false
theorem tz64 (w : World) (hc : w.cell? ⟨5, 15, none⟩ = some (.int .u8 4)) : Calls Tryd.prog 93 #[.int .u64 16] w fun e w' => e = .returned (.int .i64 4) ∧ w' = w := by
  have key : IntKind.u64.wrap (bits BinOp.and IntKind.u64 16 (IntKind.u64.wrap (-16)) * 285870213051353865) / 288230376151711744 = 15 := by decide +kernel
  go_enter Tryd.func93, Tryd.ntmps93
  go_wp2
  go_ret
  exact ⟨rfl, rfl⟩
theorem tz (w : World) (hc : w.cell? ⟨5, 15, none⟩ = some (.int .u8 4)) : Calls Tryd.prog 90 #[.int .u64 16] w fun e w' => e = .returned (.int .i64 4) ∧ w' = w := by
  go_enter Tryd.func90, Tryd.ntmps90
  go_wp2_with fail
  refine (tz64 w hc).mono fun e w' ⟨h1, h2⟩ => ?_
  subst h1; subst h2
  go_wp2
  go_ret
  exact ⟨rfl, rfl⟩
theorem pow2 (w : World) : Calls Tryd.prog 89 #[.int .i64 16] w fun e w' => e = .returned (.bool true) ∧ w' = w := by
  go_enter Tryd.func89, Tryd.ntmps89
  go_wp2
  go_ret
  exact ⟨rfl, rfl⟩
/-- A hexadecimal digit. -/
def hexd (d : Nat) : UInt8 := if d < 10 then UInt8.ofNat (48 + d) else UInt8.ofNat (87 + d)
def DIG : ByteArray := ⟨#[48, 49, 50, 51, 52, 53, 54, 55, 56, 57, 97, 98, 99, 100, 101, 102, 103, 104, 105, 106, 107, 108, 109, 110, 111, 112, 113, 114, 115, 116, 117, 118, 119, 120, 121, 122]⟩
theorem dig_at : ∀ d : Fin 16, (DIG.data[d.val]?).map (fun b : UInt8 => (b.toNat : Int)) = some ((hexd d.val).toNat : Int) := by decide
/-- The digits of a number at base 16, and its t last ones. -/
def hexL (n : Nat) : List UInt8 := if n < 16 then [hexd n] else hexL (n / 16) ++ [hexd (n % 16)]
def hs (n : Nat) : Nat → List UInt8
  | 0 => []
  | t + 1 => hexd (n / 16 ^ t % 16) :: hs n t
theorem hs_len (n : Nat) : ∀ t, (hs n t).length = t
  | 0 => rfl
  | t + 1 => by simp [hs, hs_len n t]
/-- What the loop keeps: t digits are written behind; the block that is new. -/
def Keeps (n : Nat) (w : World) (t : Nat) (W : World) : Prop :=
  RowKit.Below w.heap.size w W ∧ w.heap.size < W.heap.size ∧ (∀ p, p < 65 → W.frozen? ⟨w.heap.size, p, none⟩ = false ∧ ∃ c : UInt8, W.cell? ⟨w.heap.size, p, none⟩ = some (.int .u8 (c.toNat : Int))) ∧
    ∀ j (hj : j < (hs n t).length), W.cell? ⟨w.heap.size, 65 - t + j, none⟩ = some (.int .u8 ((hs n t)[j].toNat : Int))
theorem zero97 (p : Fin 65) : Tryd.zeroCells97[p.val]? = some (.int .u8 0) := by
  have e : Tryd.zeroCells97 = Array.replicate 65 (.int .u8 0) := by kernel_rfl
  rw [e, Array.getElem?_replicate, if_pos p.isLt]
theorem Keeps.start (n : Nat) (w : World) : Keeps n w 0 (w.alloc (.cells Tryd.zeroCells97 97)) := by
  refine ⟨(RowKit.Below.refl _ w).alloc (Nat.le_refl _) _, by simp, fun p hp => ⟨World.frozen?_alloc_new _ _ _ _, 0, ?_⟩, fun j hj => by simp [hs] at hj⟩
  rw [World.cell?_alloc_new]
  exact zero97 ⟨p, hp⟩
theorem Keeps.step {n : Nat} {w W : World} {t i v : Nat} (h : Keeps n w t W) (hi : i + t = 64) (hv : v = n / 16 ^ t) : Keeps n w (t + 1) (W.setCell ⟨w.heap.size, i, none⟩ (.int .u8 ((hexd (v % 16)).toNat : Int))) := by
  obtain ⟨h1, h2, h3, h4⟩ := h
  obtain ⟨f0, c0, hc0⟩ := h3 i (by omega)
  refine ⟨h1.setCell (Nat.le_refl _) _, by simpa using h2, fun p hp => ⟨by rw [World.frozen?_setCell]; exact (h3 p hp).1, ?_⟩, fun j hj => ?_⟩
  · by_cases e : p = i
    · subst e; exact ⟨_, World.cell?_setCell_same _ _ _ hc0⟩
    · obtain ⟨c, hc⟩ := (h3 p hp).2
      exact ⟨c, (World.cell?_setCell_other _ _ _ _ (fun h => e (by cases h; rfl))).trans hc⟩
  · cases j with
    | zero =>
      have e : 65 - (t + 1) + 0 = i := by omega
      rw [e, World.cell?_setCell_same _ _ _ hc0, hv]; rfl
    | succ j =>
      have e : 65 - (t + 1) + (j + 1) = 65 - t + j := by omega
      rw [e, World.cell?_setCell_other _ _ _ _ (fun h => by have := congrArg Addr.off h; simp at this; omega)]
      exact h4 j (by simpa [hs] using hj)
theorem and15 (v : Nat) (h : v < 65536) : bits BinOp.and IntKind.u64 (v : Int) 15 = (v : Int) % 16 := by
  have h1 := bits_and_u64_nat v 15 (by omega) (by omega)
  rw [Nat.and_two_pow_sub_one_eq_mod v 4] at h1
  exact h1.trans (by omega)
theorem idx_dig (z : Int) (d : Nat) (hz : z = (d : Int)) (hd : d < 16) (w : World) : (Instr.index 9 (.string ⟨#[48, 49, 50, 51, 52, 53, 54, 55, 56, 57, 97, 98, 99, 100, 101, 102, 103, 104, 105, 106, 107, 108, 109, 110, 111, 112, 113, 114, 115, 116, 117, 118, 119, 120, 121, 122]⟩) (.int .u64 z)).run Tryd.prog w = .ok (.int .u8 ((hexd d).toNat : Int)) w := by
  subst hz
  rw [run_index_string w 9 _ .u64 _ Tryd.underlying9, dif_pos ⟨by omega, by show (d : Int) < ((36 : Nat) : Int); omega⟩]
  have e : ((d : Int)).toNat = d := by omega
  simp only [e]
  have : ∀ d : Fin 16, ∀ h, ((DIG[d.val]'h).toNat : Int) = ((hexd d.val).toNat : Int) := by decide
  exact congrArg (fun x => Result.ok (Value.int .u8 x) w) (this ⟨d, hd⟩ _)
set_option maxHeartbeats 6400000 in
set_option maxRecDepth 100000 in
theorem fmtBits (n : Nat) (h : n < 65536) (w : World) (hc : w.cell? ⟨5, 15, none⟩ = some (.int .u8 4)) :
    Calls Tryd.prog 78 #[.slice none 0 0, .int .u64 n, .int .i64 16, .bool false, .bool false] w fun e w' => e = .returned (.tuple #[.slice none 0 0, .string ⟨(hexL n).toArray⟩]) ∧ RowKit.Below w.heap.size w w' := by
  have h5 := World.block_lt_of_cell? w _ hc
  have hc1 : (w.alloc (.cells Tryd.zeroCells97 97)).cell? ⟨5, 15, none⟩ = some (.int .u8 4) := (((Below.refl w.heap.size w).alloc (Nat.le_refl _) _).cell h5).trans hc
  go_enter Tryd.func78, Tryd.ntmps78
  go_wp2_with fail
  refine (pow2 _).mono ?_
  rintro e w' ⟨rfl, rfl⟩
  go_wp2_with fail
  refine (tz _ hc1).mono ?_
  rintro e w' ⟨rfl, rfl⟩
  go_wp2
  go_loopw [1, 13] (fun vu vi wr => ∃ (t v i : Nat), vu = .int .u64 (v : Int) ∧ vi = .int .i64 ((i + 1 : Nat) : Int) ∧ Hid (v = n / 16 ^ t) ∧ Hid (i + t = 64) ∧ Hid (hexL n = hexL v ++ hs n t) ∧ Hid (Keeps n w t wr)) (fun vu _ _ => (RowKit.intOf vu).toNat)
  case atStart => exact ⟨0, n, 64, rfl, rfl, Lib.hid (by simp), Lib.hid rfl, Lib.hid (by simp [hs]), Lib.hid (Keeps.start n w)⟩
  case round =>
    obtain ⟨t, v, i, rfl, rfl, hv, hi, ht, HI⟩ := hrel
    rename World => W0
    have hi64 : i ≤ 64 := by have := hi.out; omega
    have hvn : v ≤ n := by rw [hv.out]; exact Nat.div_le_self _ _
    have e15 := and15 v (by omega)
    have hX : ∀ W, (Instr.index 9 (.string ⟨#[48, 49, 50, 51, 52, 53, 54, 55, 56, 57, 97, 98, 99, 100, 101, 102, 103, 104, 105, 106, 107, 108, 109, 110, 111, 112, 113, 114, 115, 116, 117, 118, 119, 120, 121, 122]⟩) (.int .u64 ((v : Int) % 16))).run Tryd.prog W = .ok (.int .u8 ((hexd (v % 16)).toNat : Int)) W := fun W => idx_dig _ (v % 16) (by omega) (by omega) W
    obtain ⟨hf0, c0, hc0⟩ := HI.out.2.2.1 i (by omega)
    have hB0 := HI.out.2.1
    by_cases h16 : 16 ≤ v
    · have hi0 : 1 ≤ i := by
        have h1 := hi.out
        have h2 := hv.out
        by_cases ht4 : t < 4
        · omega
        · have h3 : 16 ^ 4 ≤ 16 ^ t := Nat.pow_le_pow_right (by omega) (by omega)
          rw [Nat.div_eq_of_lt (by omega)] at h2
          omega
      obtain ⟨m, rfl⟩ : ∃ m, i = m + 1 := ⟨i - 1, by omega⟩
      go_wp2
      go_roundw
      case rel =>
        refine ⟨t + 1, v / 16, m, by first | rfl | (congr 1; omega), by first | rfl | (congr 1; omega), Lib.hid ?_, Lib.hid ?_, Lib.hid ?_, Lib.hid (HI.out.step hi.out hv.out)⟩
        · rw [hv.out, Nat.div_div_eq_div_mul, Nat.pow_succ]
        · have := hi.out; omega
        · have e2 : hexL v = hexL (v / 16) ++ [hexd (v % 16)] := by rw [hexL, if_neg (by omega)]
          rw [ht.out, e2, hs, ← hv.out]; simp
      case measure => simp [RowKit.intOf]; omega
    · have hX2 : ∀ W, (Instr.index 9 (.string ⟨#[48, 49, 50, 51, 52, 53, 54, 55, 56, 57, 97, 98, 99, 100, 101, 102, 103, 104, 105, 106, 107, 108, 109, 110, 111, 112, 113, 114, 115, 116, 117, 118, 119, 120, 121, 122]⟩) (.int .u64 (v : Int))).run Tryd.prog W = .ok (.int .u8 ((hexd v).toNat : Int)) W := fun W => idx_dig _ v rfl (by omega) W
      have hal : Tryd.prog.arrayLen 97 = 65 := by simp [Program.arrayLen, Tryd.underlying97]
      have hsl : ∀ W, (Instr.sliceAt 97 (.pointer (some ⟨w.heap.size, 0, none⟩)) (some (.int .i64 (i : Int))) none none).run Tryd.prog W = .ok (.slice (some ⟨w.heap.size, i, none⟩) (65 - i) (65 - i)) W := fun W => by
        rw [run_sliceAt_array_l W 97 ⟨w.heap.size, 0, none⟩ (by simp [Program.arrayLen, Program.elem, Tryd.underlying97]) .i64 (i : Int) (by omega) (by rw [hal]; omega)]
        have he : Tryd.prog.elem 97 = 5 := by simp [Program.elem, Tryd.underlying97]
        rw [hal, he, Tryd.sizeOf5]
        simp [Result.andThen, slicedAt, Addr.add]
        rw [if_neg (by omega)]
        split
        · rename_i h0; rw [h0]
        · rfl
      clear hal
      have hcv : (convert 27 9 (.slice (some ⟨w.heap.size, i, none⟩) (65 - i) (65 - i))).run Tryd.prog (W0.setCell ⟨w.heap.size, i, none⟩ (.int .u8 ((hexd v).toNat : Int))) = .ok (.string ⟨(hexL n).toArray⟩) (W0.setCell ⟨w.heap.size, i, none⟩ (.int .u8 ((hexd v).toNat : Int))) := by
        have K := HI.out.step hi.out hv.out
        have hv16 : v % 16 = v := by omega
        rw [hv16] at K
        have hl : hexL n = hs n (t + 1) := by
          rw [ht.out, show hexL v = [hexd v] from by rw [hexL, if_pos (by omega)], hs, ← hv.out, hv16]; rfl
        have hlen := hs_len n (t + 1)
        have h1 := hi.out
        have hc := run_convert_bytes_back (P := Tryd.prog) (W0.setCell ⟨w.heap.size, i, none⟩ (.int .u8 ((hexd v).toNat : Int))) 27 9 5 ⟨w.heap.size, i, none⟩ (65 - i) (hs n (t + 1)) Tryd.underlying27 Tryd.underlying5 Tryd.underlying9 (fun j hj => by
          rw [Lib.add_plain]
          have := K.2.2.2 j hj
          rw [show 65 - (t + 1) + j = i + j from by omega] at this
          exact this)
        rw [hlen, show t + 1 = 65 - i from by omega] at hc
        rw [hl, show t + 1 = 65 - i from by omega]
        exact hc
      have HB := Lib.hid (HI.out.1.setCell (Nat.le_refl _) (p := ⟨w.heap.size, i, none⟩) (.int .u8 ((hexd v).toNat : Int)))
      go_wp2
      go_ret2
      exact ⟨rfl, HB.out⟩
theorem fmtInt (n : Nat) (h : n < 65536) (w : World) (hc : w.cell? ⟨5, 15, none⟩ = some (.int .u8 4)) :
    Calls Tryd.prog 63 #[.int .i64 n, .int .i64 16] w fun e w' => e = .returned (.string ⟨(hexL n).toArray⟩) ∧ RowKit.Below w.heap.size w w' := by
  have hu : IntKind.u64.wrap (n : Int) = (n : Int) := by rw [IntKind.wrap_u64]; omega
  go_enter Tryd.func63, Tryd.ntmps63
  go_wp2_with fail
  refine (fmtBits n h w hc).mono ?_
  rintro e w' ⟨rfl, hB⟩
  go_wp2
  go_ret
  exact ⟨rfl, hB⟩
theorem formatInt (n : Nat) (h : n < 65536) (w : World) (hc : w.cell? ⟨5, 15, none⟩ = some (.int .u8 4)) :
    Calls Tryd.prog 66 #[.int .i64 n, .int .i64 16] w fun e w' => e = .returned (.string ⟨(hexL n).toArray⟩) ∧ RowKit.Below w.heap.size w w' := by
  go_enter Tryd.func66, Tryd.ntmps66
  go_wp2_with fail
  refine (fmtInt n h w hc).mono ?_
  rintro e w' ⟨rfl, hB⟩
  go_wp2
  go_ret
  exact ⟨rfl, hB⟩
#print axioms formatInt
end Go.Proofs.YtebmblbfplmcaaaDoor.Fmt
