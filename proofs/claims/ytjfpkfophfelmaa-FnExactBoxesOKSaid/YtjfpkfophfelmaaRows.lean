/-
  No cell of these rows narrows 'for every input' (looked for: loops, veiled, ifaces, maps, wideKeys, modest, calm, conditions, laid).
  DERIVED. THE GIVEN ROWS OF THIS SEAT. 12 by the template 'for every input the law returns true; each argument reads behind the call as it read before'; 0 by the template 'total and deterministic' (their statements: YtjfpkfophfelmaaTotals.lean).
  GIVEN WITH THE SEED: the statements are not yours to turn. If you find one false, say at which input.
  Laid BY PROGRAM, IN A SANDBOX (cutbox-rows.mjs): the forced cells as the released guide's own fill.sh prints them over the translation 6212c73db27f28b6… (all of the seat's roots in one cut). By AI agents, Wed Nov 11 2026. No macro, syntax, notation, axiom, sorry.
-/
import Derived.Test.YtjfpkfophfelmaaChecked
import GoSem.Claim
import GoSem.ClaimJoined
import GoSem.ClaimMapViews
import Derived.JoinedTies
import Derived.KernelRfl
namespace Go.Proofs.Ytjfpkfophfelmaa
/- THE CELL 'sum', in the pinned program and in every row, IS THE sha256 OF THE DUMP (.gsa) THAT YtjfpkfophfelmaaProg.lean LOADS. Nothing in Lean hashes anything: it is a label: what it is worth is what the hold of that sum in a sandbox is worth. -/
noncomputable def Try.pinned : Pinned := { name := "ytjfpkfophfelmaa", sum := "6212c73db27f28b69207895b5daa492d0996bd5cd306c5bdb8c8c042ee3d20b3", checked := Try.checked }
namespace Rows
def none {H : Type} : Left H := { results := [], args := [] }

/-- 'laws.FnExactArpBytes': WHATEVER THE INPUT: true; the input reads as it did. -/
def fnExactArpBytesSpec : ChangeSpec := { name := "fnExactArpBytes", fn := fun _ => fun
  | [d] => { results := [.lit (.bool true)], args := [d] }
  | _ => none }
def fnExactArpBytesRow : OpenClaim := { program := "ytjfpkfophfelmaa", sum := "6212c73db27f28b69207895b5daa492d0996bd5cd306c5bdb8c8c042ee3d20b3", func := "loop.example/g00202/laws.FnExactArpBytes", spec := "fnExactArpBytes", apart := false }
def FnExactArpBytesSaid : Prop := fnExactArpBytesRow.holds Try.pinned (OpenSpec.ofChange fnExactArpBytesSpec)

/-- ITS FALSE NEIGHBOUR: 'it returns false'. Refute it at one input. -/
def fnExactArpBytesWrong : ChangeSpec := { name := "fnExactArpBytes", fn := fun _ => fun
  | [d] => { results := [.lit (.bool false)], args := [d] }
  | _ => none }
def FnExactArpBytesWrongFalsely : Prop := fnExactArpBytesRow.holds Try.pinned (OpenSpec.ofChange fnExactArpBytesWrong)

/-- 'laws.FnExactSegmentBytes': WHATEVER THE INPUT: true; the input reads as it did. -/
def fnExactSegmentBytesSpec : ChangeSpec := { name := "fnExactSegmentBytes", fn := fun _ => fun
  | [d] => { results := [.lit (.bool true)], args := [d] }
  | _ => none }
def fnExactSegmentBytesRow : OpenClaim := { program := "ytjfpkfophfelmaa", sum := "6212c73db27f28b69207895b5daa492d0996bd5cd306c5bdb8c8c042ee3d20b3", func := "loop.example/g00202/laws.FnExactSegmentBytes", spec := "fnExactSegmentBytes", apart := false }
def FnExactSegmentBytesSaid : Prop := fnExactSegmentBytesRow.holds Try.pinned (OpenSpec.ofChange fnExactSegmentBytesSpec)

/-- ITS FALSE NEIGHBOUR: 'it returns false'. Refute it at one input. -/
def fnExactSegmentBytesWrong : ChangeSpec := { name := "fnExactSegmentBytes", fn := fun _ => fun
  | [d] => { results := [.lit (.bool false)], args := [d] }
  | _ => none }
def FnExactSegmentBytesWrongFalsely : Prop := fnExactSegmentBytesRow.holds Try.pinned (OpenSpec.ofChange fnExactSegmentBytesWrong)

/-- 'laws.FnExactFrameBytes': WHATEVER THE INPUT: true; the input reads as it did. -/
def fnExactFrameBytesSpec : ChangeSpec := { name := "fnExactFrameBytes", fn := fun _ => fun
  | [d] => { results := [.lit (.bool true)], args := [d] }
  | _ => none }
def fnExactFrameBytesRow : OpenClaim := { program := "ytjfpkfophfelmaa", sum := "6212c73db27f28b69207895b5daa492d0996bd5cd306c5bdb8c8c042ee3d20b3", func := "loop.example/g00202/laws.FnExactFrameBytes", spec := "fnExactFrameBytes", apart := false }
def FnExactFrameBytesSaid : Prop := fnExactFrameBytesRow.holds Try.pinned (OpenSpec.ofChange fnExactFrameBytesSpec)

/-- ITS FALSE NEIGHBOUR: 'it returns false'. Refute it at one input. -/
def fnExactFrameBytesWrong : ChangeSpec := { name := "fnExactFrameBytes", fn := fun _ => fun
  | [d] => { results := [.lit (.bool false)], args := [d] }
  | _ => none }
def FnExactFrameBytesWrongFalsely : Prop := fnExactFrameBytesRow.holds Try.pinned (OpenSpec.ofChange fnExactFrameBytesWrong)

/-- 'laws.FnUdp': WHATEVER THE INPUT: true; the input reads as it did. -/
def fnUdpSpec : ChangeSpec := { name := "fnUdp", fn := fun _ => fun
  | [d1, d2] => { results := [.lit (.bool true)], args := [d1, d2] }
  | _ => none }
def fnUdpRow : OpenClaim := { program := "ytjfpkfophfelmaa", sum := "6212c73db27f28b69207895b5daa492d0996bd5cd306c5bdb8c8c042ee3d20b3", func := "loop.example/g00202/laws.FnUdp", spec := "fnUdp", apart := false }
def FnUdpSaid : Prop := fnUdpRow.holds Try.pinned (OpenSpec.ofChange fnUdpSpec)

/-- ITS FALSE NEIGHBOUR: 'it returns false'. Refute it at one input. -/
def fnUdpWrong : ChangeSpec := { name := "fnUdp", fn := fun _ => fun
  | [d1, d2] => { results := [.lit (.bool false)], args := [d1, d2] }
  | _ => none }
def FnUdpWrongFalsely : Prop := fnUdpRow.holds Try.pinned (OpenSpec.ofChange fnUdpWrong)

/-- 'laws.FnEcho': WHATEVER THE INPUT: true; the input reads as it did. -/
def fnEchoSpec : ChangeSpec := { name := "fnEcho", fn := fun _ => fun
  | [d1, d2] => { results := [.lit (.bool true)], args := [d1, d2] }
  | _ => none }
def fnEchoRow : OpenClaim := { program := "ytjfpkfophfelmaa", sum := "6212c73db27f28b69207895b5daa492d0996bd5cd306c5bdb8c8c042ee3d20b3", func := "loop.example/g00202/laws.FnEcho", spec := "fnEcho", apart := false }
def FnEchoSaid : Prop := fnEchoRow.holds Try.pinned (OpenSpec.ofChange fnEchoSpec)

/-- ITS FALSE NEIGHBOUR: 'it returns false'. Refute it at one input. -/
def fnEchoWrong : ChangeSpec := { name := "fnEcho", fn := fun _ => fun
  | [d1, d2] => { results := [.lit (.bool false)], args := [d1, d2] }
  | _ => none }
def FnEchoWrongFalsely : Prop := fnEchoRow.holds Try.pinned (OpenSpec.ofChange fnEchoWrong)

/-- 'laws.FnCuts': WHATEVER THE INPUT: true; the input reads as it did. -/
def fnCutsSpec : ChangeSpec := { name := "fnCuts", fn := fun _ => fun
  | [d1, d2] => { results := [.lit (.bool true)], args := [d1, d2] }
  | _ => none }
def fnCutsRow : OpenClaim := { program := "ytjfpkfophfelmaa", sum := "6212c73db27f28b69207895b5daa492d0996bd5cd306c5bdb8c8c042ee3d20b3", func := "loop.example/g00202/laws.FnCuts", spec := "fnCuts", apart := false }
def FnCutsSaid : Prop := fnCutsRow.holds Try.pinned (OpenSpec.ofChange fnCutsSpec)

/-- ITS FALSE NEIGHBOUR: 'it returns false'. Refute it at one input. -/
def fnCutsWrong : ChangeSpec := { name := "fnCuts", fn := fun _ => fun
  | [d1, d2] => { results := [.lit (.bool false)], args := [d1, d2] }
  | _ => none }
def FnCutsWrongFalsely : Prop := fnCutsRow.holds Try.pinned (OpenSpec.ofChange fnCutsWrong)

/-- 'laws.FnExactPacketBytes': WHATEVER THE INPUT: true; the input reads as it did. -/
def fnExactPacketBytesSpec : ChangeSpec := { name := "fnExactPacketBytes", fn := fun _ => fun
  | [d] => { results := [.lit (.bool true)], args := [d] }
  | _ => none }
def fnExactPacketBytesRow : OpenClaim := { program := "ytjfpkfophfelmaa", sum := "6212c73db27f28b69207895b5daa492d0996bd5cd306c5bdb8c8c042ee3d20b3", func := "loop.example/g00202/laws.FnExactPacketBytes", spec := "fnExactPacketBytes", apart := false }
def FnExactPacketBytesSaid : Prop := fnExactPacketBytesRow.holds Try.pinned (OpenSpec.ofChange fnExactPacketBytesSpec)

/-- ITS FALSE NEIGHBOUR: 'it returns false'. Refute it at one input. -/
def fnExactPacketBytesWrong : ChangeSpec := { name := "fnExactPacketBytes", fn := fun _ => fun
  | [d] => { results := [.lit (.bool false)], args := [d] }
  | _ => none }
def FnExactPacketBytesWrongFalsely : Prop := fnExactPacketBytesRow.holds Try.pinned (OpenSpec.ofChange fnExactPacketBytesWrong)

/-- 'laws.FnExactReadPacket': WHATEVER THE INPUT: true; the input reads as it did. -/
def fnExactReadPacketSpec : ChangeSpec := { name := "fnExactReadPacket", fn := fun _ => fun
  | [d] => { results := [.lit (.bool true)], args := [d] }
  | _ => none }
def fnExactReadPacketRow : OpenClaim := { program := "ytjfpkfophfelmaa", sum := "6212c73db27f28b69207895b5daa492d0996bd5cd306c5bdb8c8c042ee3d20b3", func := "loop.example/g00202/laws.FnExactReadPacket", spec := "fnExactReadPacket", apart := false }
def FnExactReadPacketSaid : Prop := fnExactReadPacketRow.holds Try.pinned (OpenSpec.ofChange fnExactReadPacketSpec)

/-- ITS FALSE NEIGHBOUR: 'it returns false'. Refute it at one input. -/
def fnExactReadPacketWrong : ChangeSpec := { name := "fnExactReadPacket", fn := fun _ => fun
  | [d] => { results := [.lit (.bool false)], args := [d] }
  | _ => none }
def FnExactReadPacketWrongFalsely : Prop := fnExactReadPacketRow.holds Try.pinned (OpenSpec.ofChange fnExactReadPacketWrong)

/-- 'laws.FnPackets': WHATEVER THE INPUT: true; the input reads as it did. -/
def fnPacketsSpec : ChangeSpec := { name := "fnPackets", fn := fun _ => fun
  | [d] => { results := [.lit (.bool true)], args := [d] }
  | _ => none }
def fnPacketsRow : OpenClaim := { program := "ytjfpkfophfelmaa", sum := "6212c73db27f28b69207895b5daa492d0996bd5cd306c5bdb8c8c042ee3d20b3", func := "loop.example/g00202/laws.FnPackets", spec := "fnPackets", apart := false }
def FnPacketsSaid : Prop := fnPacketsRow.holds Try.pinned (OpenSpec.ofChange fnPacketsSpec)

/-- ITS FALSE NEIGHBOUR: 'it returns false'. Refute it at one input. -/
def fnPacketsWrong : ChangeSpec := { name := "fnPackets", fn := fun _ => fun
  | [d] => { results := [.lit (.bool false)], args := [d] }
  | _ => none }
def FnPacketsWrongFalsely : Prop := fnPacketsRow.holds Try.pinned (OpenSpec.ofChange fnPacketsWrong)

/-- 'laws.FnExactFragment': WHATEVER THE INPUT: true; the input reads as it did. -/
def fnExactFragmentSpec : ChangeSpec := { name := "fnExactFragment", fn := fun _ => fun
  | [d1, d2] => { results := [.lit (.bool true)], args := [d1, d2] }
  | _ => none }
def fnExactFragmentRow : OpenClaim := { program := "ytjfpkfophfelmaa", sum := "6212c73db27f28b69207895b5daa492d0996bd5cd306c5bdb8c8c042ee3d20b3", func := "loop.example/g00202/laws.FnExactFragment", spec := "fnExactFragment", apart := false }
def FnExactFragmentSaid : Prop := fnExactFragmentRow.holds Try.pinned (OpenSpec.ofChange fnExactFragmentSpec)

/-- ITS FALSE NEIGHBOUR: 'it returns false'. Refute it at one input. -/
def fnExactFragmentWrong : ChangeSpec := { name := "fnExactFragment", fn := fun _ => fun
  | [d1, d2] => { results := [.lit (.bool false)], args := [d1, d2] }
  | _ => none }
def FnExactFragmentWrongFalsely : Prop := fnExactFragmentRow.holds Try.pinned (OpenSpec.ofChange fnExactFragmentWrong)

/-- 'laws.FnExactBoxesOK': WHATEVER THE INPUT: true; the input reads as it did. -/
def fnExactBoxesOKSpec : ChangeSpec := { name := "fnExactBoxesOK", fn := fun _ => fun
  | [d] => { results := [.lit (.bool true)], args := [d] }
  | _ => none }
def fnExactBoxesOKRow : OpenClaim := { program := "ytjfpkfophfelmaa", sum := "6212c73db27f28b69207895b5daa492d0996bd5cd306c5bdb8c8c042ee3d20b3", func := "loop.example/g00202/laws.FnExactBoxesOK", spec := "fnExactBoxesOK", apart := false }
def FnExactBoxesOKSaid : Prop := fnExactBoxesOKRow.holds Try.pinned (OpenSpec.ofChange fnExactBoxesOKSpec)

/-- ITS FALSE NEIGHBOUR: 'it returns false'. Refute it at one input. -/
def fnExactBoxesOKWrong : ChangeSpec := { name := "fnExactBoxesOK", fn := fun _ => fun
  | [d] => { results := [.lit (.bool false)], args := [d] }
  | _ => none }
def FnExactBoxesOKWrongFalsely : Prop := fnExactBoxesOKRow.holds Try.pinned (OpenSpec.ofChange fnExactBoxesOKWrong)

/-- 'laws.FnExactNewQueues': WHATEVER THE INPUT: true; the input reads as it did. -/
def fnExactNewQueuesSpec : ChangeSpec := { name := "fnExactNewQueues", fn := fun _ => fun
  | [d1, d2] => { results := [.lit (.bool true)], args := [d1, d2] }
  | _ => none }
def fnExactNewQueuesRow : OpenClaim := { program := "ytjfpkfophfelmaa", sum := "6212c73db27f28b69207895b5daa492d0996bd5cd306c5bdb8c8c042ee3d20b3", func := "loop.example/g00202/laws.FnExactNewQueues", spec := "fnExactNewQueues", apart := false }
def FnExactNewQueuesSaid : Prop := fnExactNewQueuesRow.holds Try.pinned (OpenSpec.ofChange fnExactNewQueuesSpec)

/-- ITS FALSE NEIGHBOUR: 'it returns false'. Refute it at one input. -/
def fnExactNewQueuesWrong : ChangeSpec := { name := "fnExactNewQueues", fn := fun _ => fun
  | [d1, d2] => { results := [.lit (.bool false)], args := [d1, d2] }
  | _ => none }
def FnExactNewQueuesWrongFalsely : Prop := fnExactNewQueuesRow.holds Try.pinned (OpenSpec.ofChange fnExactNewQueuesWrong)

/- THE SECOND FORM. 'bulk': how many values and letters a reading holds, each counted each time it is reached (what is shared counts as often as it is met; a slice's spare places count too). A statement '..UptoSaid' is the law's where the arguments, and the package variables that the reading takes, are together of bulk at most 1048576: NARROWER than '..Said'. Prove '..Said' where nothing that the law and all that it calls make is longer than what came in: it says more and counts as full. Else prove '..UptoSaid'. A law counts once. -/
mutual
def uptoBulk {H : Type} : DataW H → Nat
  | .lit (.string bytes) => bytes.length + 1
  | .lit _ => 1
  | .nil => 1
  | .ptr d => uptoBulk d + 1
  | .slice elems spare => uptoBulkAll elems + uptoBulkAll spare + 1
  | .agg parts => uptoBulkAll parts + 1
  | .iface _ d => uptoBulk d + 1
  | .map entries => uptoBulkEntries entries + 1
  | .held _ => 1
def uptoBulkAll {H : Type} : List (DataW H) → Nat
  | [] => 0
  | d :: r => uptoBulk d + uptoBulkAll r
def uptoBulkEntries {H : Type} : List (Lit × DataW H) → Nat
  | [] => 0
  | x :: r => uptoBulkEntry x + uptoBulkEntries r
def uptoBulkEntry {H : Type} : Lit × DataW H → Nat
  | (.string bytes, d) => bytes.length + uptoBulk d + 1
  | (_, d) => uptoBulk d + 1
 end
def uptoSmall : (H : Type) → List (DataW H) → Bool := fun _ ds => decide (uptoBulkAll ds ≤ 1048576)
def OpenSpec.upto (s : _root_.Go.ChangeSpec) : _root_.Go.OpenSpec := { _root_.Go.OpenSpec.ofChange s with cond := some uptoSmall }

/-- 'laws.FnExactArpBytes', WHERE WHAT IT READS IS OF BULK AT MOST 1048576: true; the input reads as it did. -/
def fnExactArpBytesUptoRow : OpenClaim := { program := "ytjfpkfophfelmaa", sum := "6212c73db27f28b69207895b5daa492d0996bd5cd306c5bdb8c8c042ee3d20b3", func := "loop.example/g00202/laws.FnExactArpBytes", spec := "fnExactArpBytes", apart := false, narrowed := true }
def FnExactArpBytesUptoSaid : Prop := fnExactArpBytesUptoRow.holds Try.pinned (OpenSpec.upto fnExactArpBytesSpec)

/-- 'laws.FnExactSegmentBytes', WHERE WHAT IT READS IS OF BULK AT MOST 1048576: true; the input reads as it did. -/
def fnExactSegmentBytesUptoRow : OpenClaim := { program := "ytjfpkfophfelmaa", sum := "6212c73db27f28b69207895b5daa492d0996bd5cd306c5bdb8c8c042ee3d20b3", func := "loop.example/g00202/laws.FnExactSegmentBytes", spec := "fnExactSegmentBytes", apart := false, narrowed := true }
def FnExactSegmentBytesUptoSaid : Prop := fnExactSegmentBytesUptoRow.holds Try.pinned (OpenSpec.upto fnExactSegmentBytesSpec)

/-- 'laws.FnExactFrameBytes', WHERE WHAT IT READS IS OF BULK AT MOST 1048576: true; the input reads as it did. -/
def fnExactFrameBytesUptoRow : OpenClaim := { program := "ytjfpkfophfelmaa", sum := "6212c73db27f28b69207895b5daa492d0996bd5cd306c5bdb8c8c042ee3d20b3", func := "loop.example/g00202/laws.FnExactFrameBytes", spec := "fnExactFrameBytes", apart := false, narrowed := true }
def FnExactFrameBytesUptoSaid : Prop := fnExactFrameBytesUptoRow.holds Try.pinned (OpenSpec.upto fnExactFrameBytesSpec)

/-- 'laws.FnUdp', WHERE WHAT IT READS IS OF BULK AT MOST 1048576: true; the input reads as it did. -/
def fnUdpUptoRow : OpenClaim := { program := "ytjfpkfophfelmaa", sum := "6212c73db27f28b69207895b5daa492d0996bd5cd306c5bdb8c8c042ee3d20b3", func := "loop.example/g00202/laws.FnUdp", spec := "fnUdp", apart := false, narrowed := true }
def FnUdpUptoSaid : Prop := fnUdpUptoRow.holds Try.pinned (OpenSpec.upto fnUdpSpec)

/-- 'laws.FnEcho', WHERE WHAT IT READS IS OF BULK AT MOST 1048576: true; the input reads as it did. -/
def fnEchoUptoRow : OpenClaim := { program := "ytjfpkfophfelmaa", sum := "6212c73db27f28b69207895b5daa492d0996bd5cd306c5bdb8c8c042ee3d20b3", func := "loop.example/g00202/laws.FnEcho", spec := "fnEcho", apart := false, narrowed := true }
def FnEchoUptoSaid : Prop := fnEchoUptoRow.holds Try.pinned (OpenSpec.upto fnEchoSpec)

/-- 'laws.FnCuts', WHERE WHAT IT READS IS OF BULK AT MOST 1048576: true; the input reads as it did. -/
def fnCutsUptoRow : OpenClaim := { program := "ytjfpkfophfelmaa", sum := "6212c73db27f28b69207895b5daa492d0996bd5cd306c5bdb8c8c042ee3d20b3", func := "loop.example/g00202/laws.FnCuts", spec := "fnCuts", apart := false, narrowed := true }
def FnCutsUptoSaid : Prop := fnCutsUptoRow.holds Try.pinned (OpenSpec.upto fnCutsSpec)

/-- 'laws.FnExactPacketBytes', WHERE WHAT IT READS IS OF BULK AT MOST 1048576: true; the input reads as it did. -/
def fnExactPacketBytesUptoRow : OpenClaim := { program := "ytjfpkfophfelmaa", sum := "6212c73db27f28b69207895b5daa492d0996bd5cd306c5bdb8c8c042ee3d20b3", func := "loop.example/g00202/laws.FnExactPacketBytes", spec := "fnExactPacketBytes", apart := false, narrowed := true }
def FnExactPacketBytesUptoSaid : Prop := fnExactPacketBytesUptoRow.holds Try.pinned (OpenSpec.upto fnExactPacketBytesSpec)

/-- 'laws.FnExactReadPacket', WHERE WHAT IT READS IS OF BULK AT MOST 1048576: true; the input reads as it did. -/
def fnExactReadPacketUptoRow : OpenClaim := { program := "ytjfpkfophfelmaa", sum := "6212c73db27f28b69207895b5daa492d0996bd5cd306c5bdb8c8c042ee3d20b3", func := "loop.example/g00202/laws.FnExactReadPacket", spec := "fnExactReadPacket", apart := false, narrowed := true }
def FnExactReadPacketUptoSaid : Prop := fnExactReadPacketUptoRow.holds Try.pinned (OpenSpec.upto fnExactReadPacketSpec)

/-- 'laws.FnPackets', WHERE WHAT IT READS IS OF BULK AT MOST 1048576: true; the input reads as it did. -/
def fnPacketsUptoRow : OpenClaim := { program := "ytjfpkfophfelmaa", sum := "6212c73db27f28b69207895b5daa492d0996bd5cd306c5bdb8c8c042ee3d20b3", func := "loop.example/g00202/laws.FnPackets", spec := "fnPackets", apart := false, narrowed := true }
def FnPacketsUptoSaid : Prop := fnPacketsUptoRow.holds Try.pinned (OpenSpec.upto fnPacketsSpec)

/-- 'laws.FnExactFragment', WHERE WHAT IT READS IS OF BULK AT MOST 1048576: true; the input reads as it did. -/
def fnExactFragmentUptoRow : OpenClaim := { program := "ytjfpkfophfelmaa", sum := "6212c73db27f28b69207895b5daa492d0996bd5cd306c5bdb8c8c042ee3d20b3", func := "loop.example/g00202/laws.FnExactFragment", spec := "fnExactFragment", apart := false, narrowed := true }
def FnExactFragmentUptoSaid : Prop := fnExactFragmentUptoRow.holds Try.pinned (OpenSpec.upto fnExactFragmentSpec)

/-- 'laws.FnExactBoxesOK', WHERE WHAT IT READS IS OF BULK AT MOST 1048576: true; the input reads as it did. -/
def fnExactBoxesOKUptoRow : OpenClaim := { program := "ytjfpkfophfelmaa", sum := "6212c73db27f28b69207895b5daa492d0996bd5cd306c5bdb8c8c042ee3d20b3", func := "loop.example/g00202/laws.FnExactBoxesOK", spec := "fnExactBoxesOK", apart := false, narrowed := true }
def FnExactBoxesOKUptoSaid : Prop := fnExactBoxesOKUptoRow.holds Try.pinned (OpenSpec.upto fnExactBoxesOKSpec)

/-- 'laws.FnExactNewQueues', WHERE WHAT IT READS IS OF BULK AT MOST 1048576: true; the input reads as it did. -/
def fnExactNewQueuesUptoRow : OpenClaim := { program := "ytjfpkfophfelmaa", sum := "6212c73db27f28b69207895b5daa492d0996bd5cd306c5bdb8c8c042ee3d20b3", func := "loop.example/g00202/laws.FnExactNewQueues", spec := "fnExactNewQueues", apart := false, narrowed := true }
def FnExactNewQueuesUptoSaid : Prop := fnExactNewQueuesUptoRow.holds Try.pinned (OpenSpec.upto fnExactNewQueuesSpec)

end Rows
end Go.Proofs.Ytjfpkfophfelmaa
