/-
  No cell of these rows narrows 'for every input' (looked for: loops, veiled, ifaces, maps, wideKeys, modest, calm, conditions, laid).
  DERIVED. THE GIVEN ROWS OF THIS SEAT. 10 by the template 'for every input the law returns true; each argument reads behind the call as it read before'; 0 by the template 'total and deterministic' (their statements: YthbeooiaaplojaaTotals.lean).
  GIVEN WITH THE SEED: the statements are not yours to turn. If you find one false, say at which input.
  Laid BY PROGRAM, IN A SANDBOX (cutbox-rows.mjs): the forced cells as the released guide's own fill.sh prints them over the translation e837e471cc14be12… (all of the seat's roots in one cut). By AI agents, Wed Nov 11 2026. No macro, syntax, notation, axiom, sorry.
-/
import Derived.Test.YthbeooiaaplojaaChecked
import GoSem.Claim
import GoSem.ClaimJoined
import GoSem.ClaimMapViews
import Derived.JoinedTies
import Derived.KernelRfl
namespace Go.Proofs.Ythbeooiaaplojaa
/- THE CELL 'sum', in the pinned program and in every row, IS THE sha256 OF THE DUMP (.gsa) THAT YthbeooiaaplojaaProg.lean LOADS. Nothing in Lean hashes anything: it is a label: what it is worth is what the hold of that sum in a sandbox is worth. -/
noncomputable def Try.pinned : Pinned := { name := "ythbeooiaaplojaa", sum := "e837e471cc14be1203e735bf8b4008eeae4c7ab2d0c8ad0715d3d33cbeb1a018", checked := Try.checked }
namespace Rows
def none {H : Type} : Left H := { results := [], args := [] }

/-- 'laws.FnFix': WHATEVER THE INPUT: true; the input reads as it did. -/
def fnFixSpec : ChangeSpec := { name := "fnFix", fn := fun _ => fun
  | [d1, d2] => { results := [.lit (.bool true)], args := [d1, d2] }
  | _ => none }
def fnFixRow : OpenClaim := { program := "ythbeooiaaplojaa", sum := "e837e471cc14be1203e735bf8b4008eeae4c7ab2d0c8ad0715d3d33cbeb1a018", func := "loop.example/g00202/laws.FnFix", spec := "fnFix", apart := false }
def FnFixSaid : Prop := fnFixRow.holds Try.pinned (OpenSpec.ofChange fnFixSpec)

/-- ITS FALSE NEIGHBOUR: 'it returns false'. Refute it at one input. -/
def fnFixWrong : ChangeSpec := { name := "fnFix", fn := fun _ => fun
  | [d1, d2] => { results := [.lit (.bool false)], args := [d1, d2] }
  | _ => none }
def FnFixWrongFalsely : Prop := fnFixRow.holds Try.pinned (OpenSpec.ofChange fnFixWrong)

/-- 'laws.FnCuts': WHATEVER THE INPUT: true; the input reads as it did. -/
def fnCutsSpec : ChangeSpec := { name := "fnCuts", fn := fun _ => fun
  | [d1, d2] => { results := [.lit (.bool true)], args := [d1, d2] }
  | _ => none }
def fnCutsRow : OpenClaim := { program := "ythbeooiaaplojaa", sum := "e837e471cc14be1203e735bf8b4008eeae4c7ab2d0c8ad0715d3d33cbeb1a018", func := "loop.example/g00202/laws.FnCuts", spec := "fnCuts", apart := false }
def FnCutsSaid : Prop := fnCutsRow.holds Try.pinned (OpenSpec.ofChange fnCutsSpec)

/-- ITS FALSE NEIGHBOUR: 'it returns false'. Refute it at one input. -/
def fnCutsWrong : ChangeSpec := { name := "fnCuts", fn := fun _ => fun
  | [d1, d2] => { results := [.lit (.bool false)], args := [d1, d2] }
  | _ => none }
def FnCutsWrongFalsely : Prop := fnCutsRow.holds Try.pinned (OpenSpec.ofChange fnCutsWrong)

/-- 'laws.FnUdp': WHATEVER THE INPUT: true; the input reads as it did. -/
def fnUdpSpec : ChangeSpec := { name := "fnUdp", fn := fun _ => fun
  | [d1, d2] => { results := [.lit (.bool true)], args := [d1, d2] }
  | _ => none }
def fnUdpRow : OpenClaim := { program := "ythbeooiaaplojaa", sum := "e837e471cc14be1203e735bf8b4008eeae4c7ab2d0c8ad0715d3d33cbeb1a018", func := "loop.example/g00202/laws.FnUdp", spec := "fnUdp", apart := false }
def FnUdpSaid : Prop := fnUdpRow.holds Try.pinned (OpenSpec.ofChange fnUdpSpec)

/-- ITS FALSE NEIGHBOUR: 'it returns false'. Refute it at one input. -/
def fnUdpWrong : ChangeSpec := { name := "fnUdp", fn := fun _ => fun
  | [d1, d2] => { results := [.lit (.bool false)], args := [d1, d2] }
  | _ => none }
def FnUdpWrongFalsely : Prop := fnUdpRow.holds Try.pinned (OpenSpec.ofChange fnUdpWrong)

/-- 'laws.FnEcho': WHATEVER THE INPUT: true; the input reads as it did. -/
def fnEchoSpec : ChangeSpec := { name := "fnEcho", fn := fun _ => fun
  | [d1, d2] => { results := [.lit (.bool true)], args := [d1, d2] }
  | _ => none }
def fnEchoRow : OpenClaim := { program := "ythbeooiaaplojaa", sum := "e837e471cc14be1203e735bf8b4008eeae4c7ab2d0c8ad0715d3d33cbeb1a018", func := "loop.example/g00202/laws.FnEcho", spec := "fnEcho", apart := false }
def FnEchoSaid : Prop := fnEchoRow.holds Try.pinned (OpenSpec.ofChange fnEchoSpec)

/-- ITS FALSE NEIGHBOUR: 'it returns false'. Refute it at one input. -/
def fnEchoWrong : ChangeSpec := { name := "fnEcho", fn := fun _ => fun
  | [d1, d2] => { results := [.lit (.bool false)], args := [d1, d2] }
  | _ => none }
def FnEchoWrongFalsely : Prop := fnEchoRow.holds Try.pinned (OpenSpec.ofChange fnEchoWrong)

/-- 'laws.FnPackets': WHATEVER THE INPUT: true; the input reads as it did. -/
def fnPacketsSpec : ChangeSpec := { name := "fnPackets", fn := fun _ => fun
  | [d] => { results := [.lit (.bool true)], args := [d] }
  | _ => none }
def fnPacketsRow : OpenClaim := { program := "ythbeooiaaplojaa", sum := "e837e471cc14be1203e735bf8b4008eeae4c7ab2d0c8ad0715d3d33cbeb1a018", func := "loop.example/g00202/laws.FnPackets", spec := "fnPackets", apart := false }
def FnPacketsSaid : Prop := fnPacketsRow.holds Try.pinned (OpenSpec.ofChange fnPacketsSpec)

/-- ITS FALSE NEIGHBOUR: 'it returns false'. Refute it at one input. -/
def fnPacketsWrong : ChangeSpec := { name := "fnPackets", fn := fun _ => fun
  | [d] => { results := [.lit (.bool false)], args := [d] }
  | _ => none }
def FnPacketsWrongFalsely : Prop := fnPacketsRow.holds Try.pinned (OpenSpec.ofChange fnPacketsWrong)

/-- 'laws.FnExpires': WHATEVER THE INPUT: true; the input reads as it did. -/
def fnExpiresSpec : ChangeSpec := { name := "fnExpires", fn := fun _ => fun
  | [d1, d2] => { results := [.lit (.bool true)], args := [d1, d2] }
  | _ => none }
def fnExpiresRow : OpenClaim := { program := "ythbeooiaaplojaa", sum := "e837e471cc14be1203e735bf8b4008eeae4c7ab2d0c8ad0715d3d33cbeb1a018", func := "loop.example/g00202/laws.FnExpires", spec := "fnExpires", apart := false }
def FnExpiresSaid : Prop := fnExpiresRow.holds Try.pinned (OpenSpec.ofChange fnExpiresSpec)

/-- ITS FALSE NEIGHBOUR: 'it returns false'. Refute it at one input. -/
def fnExpiresWrong : ChangeSpec := { name := "fnExpires", fn := fun _ => fun
  | [d1, d2] => { results := [.lit (.bool false)], args := [d1, d2] }
  | _ => none }
def FnExpiresWrongFalsely : Prop := fnExpiresRow.holds Try.pinned (OpenSpec.ofChange fnExpiresWrong)

/-- 'laws.FnDistances': WHATEVER THE INPUT: true; the input reads as it did. -/
def fnDistancesSpec : ChangeSpec := { name := "fnDistances", fn := fun _ => fun
  | [d] => { results := [.lit (.bool true)], args := [d] }
  | _ => none }
def fnDistancesRow : OpenClaim := { program := "ythbeooiaaplojaa", sum := "e837e471cc14be1203e735bf8b4008eeae4c7ab2d0c8ad0715d3d33cbeb1a018", func := "loop.example/g00202/laws.FnDistances", spec := "fnDistances", unfollowed := true, recurses := true, apart := false }
def FnDistancesSaid : Prop := fnDistancesRow.holds Try.pinned (OpenSpec.ofChange fnDistancesSpec)

/-- ITS FALSE NEIGHBOUR: 'it returns false'. Refute it at one input. -/
def fnDistancesWrong : ChangeSpec := { name := "fnDistances", fn := fun _ => fun
  | [d] => { results := [.lit (.bool false)], args := [d] }
  | _ => none }
def FnDistancesWrongFalsely : Prop := fnDistancesRow.holds Try.pinned (OpenSpec.ofChange fnDistancesWrong)

/-- 'laws.FnPieces': WHATEVER THE INPUT: true; the input reads as it did. -/
def fnPiecesSpec : ChangeSpec := { name := "fnPieces", fn := fun _ => fun
  | [d1, d2] => { results := [.lit (.bool true)], args := [d1, d2] }
  | _ => none }
def fnPiecesRow : OpenClaim := { program := "ythbeooiaaplojaa", sum := "e837e471cc14be1203e735bf8b4008eeae4c7ab2d0c8ad0715d3d33cbeb1a018", func := "loop.example/g00202/laws.FnPieces", spec := "fnPieces", inPlace := ["slices.overlaps[loop.example/g00202/impl.Piece]"], unfollowed := true, recurses := true, apart := false }
def FnPiecesSaid : Prop := fnPiecesRow.holds Try.pinned (OpenSpec.ofChange fnPiecesSpec)

/-- ITS FALSE NEIGHBOUR: 'it returns false'. Refute it at one input. -/
def fnPiecesWrong : ChangeSpec := { name := "fnPieces", fn := fun _ => fun
  | [d1, d2] => { results := [.lit (.bool false)], args := [d1, d2] }
  | _ => none }
def FnPiecesWrongFalsely : Prop := fnPiecesRow.holds Try.pinned (OpenSpec.ofChange fnPiecesWrong)

/-- 'laws.FnErrors': WHATEVER THE INPUT: true; the input reads as it did. -/
def fnErrorsSpec : ChangeSpec := { name := "fnErrors", fn := fun _ => fun
  | [d1, d2] => { results := [.lit (.bool true)], args := [d1, d2] }
  | _ => none }
def fnErrorsRow : OpenClaim := { program := "ythbeooiaaplojaa", sum := "e837e471cc14be1203e735bf8b4008eeae4c7ab2d0c8ad0715d3d33cbeb1a018", func := "loop.example/g00202/laws.FnErrors", spec := "fnErrors", unfollowed := true, recurses := true, apart := false }
def FnErrorsSaid : Prop := fnErrorsRow.holds Try.pinned (OpenSpec.ofChange fnErrorsSpec)

/-- ITS FALSE NEIGHBOUR: 'it returns false'. Refute it at one input. -/
def fnErrorsWrong : ChangeSpec := { name := "fnErrors", fn := fun _ => fun
  | [d1, d2] => { results := [.lit (.bool false)], args := [d1, d2] }
  | _ => none }
def FnErrorsWrongFalsely : Prop := fnErrorsRow.holds Try.pinned (OpenSpec.ofChange fnErrorsWrong)

/-- 'laws.FnForwards': WHATEVER THE INPUT: true; the input reads as it did. -/
def fnForwardsSpec : ChangeSpec := { name := "fnForwards", fn := fun _ => fun
  | [d1, d2] => { results := [.lit (.bool true)], args := [d1, d2] }
  | _ => none }
def fnForwardsRow : OpenClaim := { program := "ythbeooiaaplojaa", sum := "e837e471cc14be1203e735bf8b4008eeae4c7ab2d0c8ad0715d3d33cbeb1a018", func := "loop.example/g00202/laws.FnForwards", spec := "fnForwards", recurses := true, apart := false }
def FnForwardsSaid : Prop := fnForwardsRow.holds Try.pinned (OpenSpec.ofChange fnForwardsSpec)

/-- ITS FALSE NEIGHBOUR: 'it returns false'. Refute it at one input. -/
def fnForwardsWrong : ChangeSpec := { name := "fnForwards", fn := fun _ => fun
  | [d1, d2] => { results := [.lit (.bool false)], args := [d1, d2] }
  | _ => none }
def FnForwardsWrongFalsely : Prop := fnForwardsRow.holds Try.pinned (OpenSpec.ofChange fnForwardsWrong)

/- THE SECOND FORM. 'bulk': how many values and letters a reading holds, each counted each time it is reached (what is shared counts as often as it is met; a slice's spare places count too). A statement '..UptoSaid' is the law's where the arguments, and the package variables that the reading takes, are together of bulk at most 1048576: NARROWER than '..Said'. Prove '..Said' where nothing that the law and all that it calls make is longer than what came in: it says more and counts as full. Else prove '..UptoSaid'. A law counts once. -/
mutual
def uptoBulk {H : Type} : DataW H → Nat
  | .lit (.string bytes) => bytes.length + 1
  | .lit _ => 1
  | .nil => 1
  | .ptr d => uptoBulk d + 1
  | .slice elems spare => uptoBulkAll elems + uptoBulkAll spare + 1
  | .agg parts => uptoBulkAll parts + 1
  | .iface _ d => uptoBulk d + 1
  | .map entries => uptoBulkEntries entries + 1
  | .held _ => 1
def uptoBulkAll {H : Type} : List (DataW H) → Nat
  | [] => 0
  | d :: r => uptoBulk d + uptoBulkAll r
def uptoBulkEntries {H : Type} : List (Lit × DataW H) → Nat
  | [] => 0
  | x :: r => uptoBulkEntry x + uptoBulkEntries r
def uptoBulkEntry {H : Type} : Lit × DataW H → Nat
  | (.string bytes, d) => bytes.length + uptoBulk d + 1
  | (_, d) => uptoBulk d + 1
 end
def uptoSmall : (H : Type) → List (DataW H) → Bool := fun _ ds => decide (uptoBulkAll ds ≤ 1048576)
def OpenSpec.upto (s : _root_.Go.ChangeSpec) : _root_.Go.OpenSpec := { _root_.Go.OpenSpec.ofChange s with cond := some uptoSmall }

/-- 'laws.FnFix', WHERE WHAT IT READS IS OF BULK AT MOST 1048576: true; the input reads as it did. -/
def fnFixUptoRow : OpenClaim := { program := "ythbeooiaaplojaa", sum := "e837e471cc14be1203e735bf8b4008eeae4c7ab2d0c8ad0715d3d33cbeb1a018", func := "loop.example/g00202/laws.FnFix", spec := "fnFix", apart := false, narrowed := true }
def FnFixUptoSaid : Prop := fnFixUptoRow.holds Try.pinned (OpenSpec.upto fnFixSpec)

/-- 'laws.FnCuts', WHERE WHAT IT READS IS OF BULK AT MOST 1048576: true; the input reads as it did. -/
def fnCutsUptoRow : OpenClaim := { program := "ythbeooiaaplojaa", sum := "e837e471cc14be1203e735bf8b4008eeae4c7ab2d0c8ad0715d3d33cbeb1a018", func := "loop.example/g00202/laws.FnCuts", spec := "fnCuts", apart := false, narrowed := true }
def FnCutsUptoSaid : Prop := fnCutsUptoRow.holds Try.pinned (OpenSpec.upto fnCutsSpec)

/-- 'laws.FnUdp', WHERE WHAT IT READS IS OF BULK AT MOST 1048576: true; the input reads as it did. -/
def fnUdpUptoRow : OpenClaim := { program := "ythbeooiaaplojaa", sum := "e837e471cc14be1203e735bf8b4008eeae4c7ab2d0c8ad0715d3d33cbeb1a018", func := "loop.example/g00202/laws.FnUdp", spec := "fnUdp", apart := false, narrowed := true }
def FnUdpUptoSaid : Prop := fnUdpUptoRow.holds Try.pinned (OpenSpec.upto fnUdpSpec)

/-- 'laws.FnEcho', WHERE WHAT IT READS IS OF BULK AT MOST 1048576: true; the input reads as it did. -/
def fnEchoUptoRow : OpenClaim := { program := "ythbeooiaaplojaa", sum := "e837e471cc14be1203e735bf8b4008eeae4c7ab2d0c8ad0715d3d33cbeb1a018", func := "loop.example/g00202/laws.FnEcho", spec := "fnEcho", apart := false, narrowed := true }
def FnEchoUptoSaid : Prop := fnEchoUptoRow.holds Try.pinned (OpenSpec.upto fnEchoSpec)

/-- 'laws.FnPackets', WHERE WHAT IT READS IS OF BULK AT MOST 1048576: true; the input reads as it did. -/
def fnPacketsUptoRow : OpenClaim := { program := "ythbeooiaaplojaa", sum := "e837e471cc14be1203e735bf8b4008eeae4c7ab2d0c8ad0715d3d33cbeb1a018", func := "loop.example/g00202/laws.FnPackets", spec := "fnPackets", apart := false, narrowed := true }
def FnPacketsUptoSaid : Prop := fnPacketsUptoRow.holds Try.pinned (OpenSpec.upto fnPacketsSpec)

/-- 'laws.FnExpires', WHERE WHAT IT READS IS OF BULK AT MOST 1048576: true; the input reads as it did. -/
def fnExpiresUptoRow : OpenClaim := { program := "ythbeooiaaplojaa", sum := "e837e471cc14be1203e735bf8b4008eeae4c7ab2d0c8ad0715d3d33cbeb1a018", func := "loop.example/g00202/laws.FnExpires", spec := "fnExpires", apart := false, narrowed := true }
def FnExpiresUptoSaid : Prop := fnExpiresUptoRow.holds Try.pinned (OpenSpec.upto fnExpiresSpec)

/-- 'laws.FnDistances', WHERE WHAT IT READS IS OF BULK AT MOST 1048576: true; the input reads as it did. -/
def fnDistancesUptoRow : OpenClaim := { program := "ythbeooiaaplojaa", sum := "e837e471cc14be1203e735bf8b4008eeae4c7ab2d0c8ad0715d3d33cbeb1a018", func := "loop.example/g00202/laws.FnDistances", spec := "fnDistances", unfollowed := true, recurses := true, apart := false, narrowed := true }
def FnDistancesUptoSaid : Prop := fnDistancesUptoRow.holds Try.pinned (OpenSpec.upto fnDistancesSpec)

/-- 'laws.FnPieces', WHERE WHAT IT READS IS OF BULK AT MOST 1048576: true; the input reads as it did. -/
def fnPiecesUptoRow : OpenClaim := { program := "ythbeooiaaplojaa", sum := "e837e471cc14be1203e735bf8b4008eeae4c7ab2d0c8ad0715d3d33cbeb1a018", func := "loop.example/g00202/laws.FnPieces", spec := "fnPieces", inPlace := ["slices.overlaps[loop.example/g00202/impl.Piece]"], unfollowed := true, recurses := true, apart := false, narrowed := true }
def FnPiecesUptoSaid : Prop := fnPiecesUptoRow.holds Try.pinned (OpenSpec.upto fnPiecesSpec)

/-- 'laws.FnErrors', WHERE WHAT IT READS IS OF BULK AT MOST 1048576: true; the input reads as it did. -/
def fnErrorsUptoRow : OpenClaim := { program := "ythbeooiaaplojaa", sum := "e837e471cc14be1203e735bf8b4008eeae4c7ab2d0c8ad0715d3d33cbeb1a018", func := "loop.example/g00202/laws.FnErrors", spec := "fnErrors", unfollowed := true, recurses := true, apart := false, narrowed := true }
def FnErrorsUptoSaid : Prop := fnErrorsUptoRow.holds Try.pinned (OpenSpec.upto fnErrorsSpec)

/-- 'laws.FnForwards', WHERE WHAT IT READS IS OF BULK AT MOST 1048576: true; the input reads as it did. -/
def fnForwardsUptoRow : OpenClaim := { program := "ythbeooiaaplojaa", sum := "e837e471cc14be1203e735bf8b4008eeae4c7ab2d0c8ad0715d3d33cbeb1a018", func := "loop.example/g00202/laws.FnForwards", spec := "fnForwards", recurses := true, apart := false, narrowed := true }
def FnForwardsUptoSaid : Prop := fnForwardsUptoRow.holds Try.pinned (OpenSpec.upto fnForwardsSpec)

end Rows
end Go.Proofs.Ythbeooiaaplojaa
