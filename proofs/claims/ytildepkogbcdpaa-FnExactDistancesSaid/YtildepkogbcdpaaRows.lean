/-
  NARROWER THAN 'FOR EVERY INPUT', by the rows' own cells (each row's printed sentence says how): FnExactTrieRoutes: loops.
  DERIVED. THE GIVEN ROWS OF THIS SEAT. 12 by the template 'for every input the law returns true; each argument reads behind the call as it read before'; 0 by the template 'total and deterministic' (their statements: YtildepkogbcdpaaTotals.lean).
  GIVEN WITH THE SEED: the statements are not yours to turn. If you find one false, say at which input.
  Laid BY PROGRAM, IN A SANDBOX (cutbox-rows.mjs): the forced cells as the released guide's own fill.sh prints them over the translation 43ab79f9fa426c14… (all of the seat's roots in one cut). By AI agents, Wed Nov 11 2026. No macro, syntax, notation, axiom, sorry.
-/
import Derived.Test.YtildepkogbcdpaaChecked
import GoSem.Claim
import GoSem.ClaimJoined
import GoSem.ClaimMapViews
import Derived.JoinedTies
import Derived.KernelRfl
namespace Go.Proofs.Ytildepkogbcdpaa
/- THE CELL 'sum', in the pinned program and in every row, IS THE sha256 OF THE DUMP (.gsa) THAT YtildepkogbcdpaaProg.lean LOADS. Nothing in Lean hashes anything: it is a label: what it is worth is what the hold of that sum in a sandbox is worth. -/
noncomputable def Try.pinned : Pinned := { name := "ytildepkogbcdpaa", sum := "43ab79f9fa426c14d8c97a060bb54d8852dca9607a26f02ece1f85015d96f898", checked := Try.checked }
namespace Rows
def none {H : Type} : Left H := { results := [], args := [] }

/-- 'laws.FnCuts': WHATEVER THE INPUT: true; the input reads as it did. -/
def fnCutsSpec : ChangeSpec := { name := "fnCuts", fn := fun _ => fun
  | [d1, d2] => { results := [.lit (.bool true)], args := [d1, d2] }
  | _ => none }
def fnCutsRow : OpenClaim := { program := "ytildepkogbcdpaa", sum := "43ab79f9fa426c14d8c97a060bb54d8852dca9607a26f02ece1f85015d96f898", func := "loop.example/g00202/laws.FnCuts", spec := "fnCuts", apart := false }
def FnCutsSaid : Prop := fnCutsRow.holds Try.pinned (OpenSpec.ofChange fnCutsSpec)

/-- ITS FALSE NEIGHBOUR: 'it returns false'. Refute it at one input. -/
def fnCutsWrong : ChangeSpec := { name := "fnCuts", fn := fun _ => fun
  | [d1, d2] => { results := [.lit (.bool false)], args := [d1, d2] }
  | _ => none }
def FnCutsWrongFalsely : Prop := fnCutsRow.holds Try.pinned (OpenSpec.ofChange fnCutsWrong)

/-- 'laws.FnExactNewQueues': WHATEVER THE INPUT: true; the input reads as it did. -/
def fnExactNewQueuesSpec : ChangeSpec := { name := "fnExactNewQueues", fn := fun _ => fun
  | [d1, d2] => { results := [.lit (.bool true)], args := [d1, d2] }
  | _ => none }
def fnExactNewQueuesRow : OpenClaim := { program := "ytildepkogbcdpaa", sum := "43ab79f9fa426c14d8c97a060bb54d8852dca9607a26f02ece1f85015d96f898", func := "loop.example/g00202/laws.FnExactNewQueues", spec := "fnExactNewQueues", apart := false }
def FnExactNewQueuesSaid : Prop := fnExactNewQueuesRow.holds Try.pinned (OpenSpec.ofChange fnExactNewQueuesSpec)

/-- ITS FALSE NEIGHBOUR: 'it returns false'. Refute it at one input. -/
def fnExactNewQueuesWrong : ChangeSpec := { name := "fnExactNewQueues", fn := fun _ => fun
  | [d1, d2] => { results := [.lit (.bool false)], args := [d1, d2] }
  | _ => none }
def FnExactNewQueuesWrongFalsely : Prop := fnExactNewQueuesRow.holds Try.pinned (OpenSpec.ofChange fnExactNewQueuesWrong)

/-- 'laws.FnExactReadPacket': WHATEVER THE INPUT: true; the input reads as it did. -/
def fnExactReadPacketSpec : ChangeSpec := { name := "fnExactReadPacket", fn := fun _ => fun
  | [d] => { results := [.lit (.bool true)], args := [d] }
  | _ => none }
def fnExactReadPacketRow : OpenClaim := { program := "ytildepkogbcdpaa", sum := "43ab79f9fa426c14d8c97a060bb54d8852dca9607a26f02ece1f85015d96f898", func := "loop.example/g00202/laws.FnExactReadPacket", spec := "fnExactReadPacket", apart := false }
def FnExactReadPacketSaid : Prop := fnExactReadPacketRow.holds Try.pinned (OpenSpec.ofChange fnExactReadPacketSpec)

/-- ITS FALSE NEIGHBOUR: 'it returns false'. Refute it at one input. -/
def fnExactReadPacketWrong : ChangeSpec := { name := "fnExactReadPacket", fn := fun _ => fun
  | [d] => { results := [.lit (.bool false)], args := [d] }
  | _ => none }
def FnExactReadPacketWrongFalsely : Prop := fnExactReadPacketRow.holds Try.pinned (OpenSpec.ofChange fnExactReadPacketWrong)

/-- 'laws.FnExactQueuesOK': WHATEVER THE INPUT: true; the input reads as it did. -/
def fnExactQueuesOKSpec : ChangeSpec := { name := "fnExactQueuesOK", fn := fun _ => fun
  | [d] => { results := [.lit (.bool true)], args := [d] }
  | _ => none }
def fnExactQueuesOKRow : OpenClaim := { program := "ytildepkogbcdpaa", sum := "43ab79f9fa426c14d8c97a060bb54d8852dca9607a26f02ece1f85015d96f898", func := "loop.example/g00202/laws.FnExactQueuesOK", spec := "fnExactQueuesOK", apart := false }
def FnExactQueuesOKSaid : Prop := fnExactQueuesOKRow.holds Try.pinned (OpenSpec.ofChange fnExactQueuesOKSpec)

/-- ITS FALSE NEIGHBOUR: 'it returns false'. Refute it at one input. -/
def fnExactQueuesOKWrong : ChangeSpec := { name := "fnExactQueuesOK", fn := fun _ => fun
  | [d] => { results := [.lit (.bool false)], args := [d] }
  | _ => none }
def FnExactQueuesOKWrongFalsely : Prop := fnExactQueuesOKRow.holds Try.pinned (OpenSpec.ofChange fnExactQueuesOKWrong)

/-- 'laws.FnExactAreaOK': WHATEVER THE INPUT: true; the input reads as it did. -/
def fnExactAreaOKSpec : ChangeSpec := { name := "fnExactAreaOK", fn := fun _ => fun
  | [d] => { results := [.lit (.bool true)], args := [d] }
  | _ => none }
def fnExactAreaOKRow : OpenClaim := { program := "ytildepkogbcdpaa", sum := "43ab79f9fa426c14d8c97a060bb54d8852dca9607a26f02ece1f85015d96f898", func := "loop.example/g00202/laws.FnExactAreaOK", spec := "fnExactAreaOK", unfollowed := true, recurses := true, apart := false }
def FnExactAreaOKSaid : Prop := fnExactAreaOKRow.holds Try.pinned (OpenSpec.ofChange fnExactAreaOKSpec)

/-- ITS FALSE NEIGHBOUR: 'it returns false'. Refute it at one input. -/
def fnExactAreaOKWrong : ChangeSpec := { name := "fnExactAreaOK", fn := fun _ => fun
  | [d] => { results := [.lit (.bool false)], args := [d] }
  | _ => none }
def FnExactAreaOKWrongFalsely : Prop := fnExactAreaOKRow.holds Try.pinned (OpenSpec.ofChange fnExactAreaOKWrong)

/-- 'laws.FnExactTrieRoutes': WHATEVER THE INPUT: true; the input reads as it did. -/
def fnExactTrieRoutesSpec : ChangeSpec := { name := "fnExactTrieRoutes", fn := fun _ => fun
  | [d] => { results := [.lit (.bool true)], args := [d] }
  | _ => none }
def fnExactTrieRoutesRow : OpenClaim := { program := "ytildepkogbcdpaa", sum := "43ab79f9fa426c14d8c97a060bb54d8852dca9607a26f02ece1f85015d96f898", func := "loop.example/g00202/laws.FnExactTrieRoutes", spec := "fnExactTrieRoutes", recurses := true, loops := true, apart := false }
def FnExactTrieRoutesSaid : Prop := fnExactTrieRoutesRow.holds Try.pinned (OpenSpec.ofChange fnExactTrieRoutesSpec)

/-- ITS FALSE NEIGHBOUR: 'it returns false'. Refute it at one input. -/
def fnExactTrieRoutesWrong : ChangeSpec := { name := "fnExactTrieRoutes", fn := fun _ => fun
  | [d] => { results := [.lit (.bool false)], args := [d] }
  | _ => none }
def FnExactTrieRoutesWrongFalsely : Prop := fnExactTrieRoutesRow.holds Try.pinned (OpenSpec.ofChange fnExactTrieRoutesWrong)

/-- 'laws.FnPackets': WHATEVER THE INPUT: true; the input reads as it did. -/
def fnPacketsSpec : ChangeSpec := { name := "fnPackets", fn := fun _ => fun
  | [d] => { results := [.lit (.bool true)], args := [d] }
  | _ => none }
def fnPacketsRow : OpenClaim := { program := "ytildepkogbcdpaa", sum := "43ab79f9fa426c14d8c97a060bb54d8852dca9607a26f02ece1f85015d96f898", func := "loop.example/g00202/laws.FnPackets", spec := "fnPackets", apart := false }
def FnPacketsSaid : Prop := fnPacketsRow.holds Try.pinned (OpenSpec.ofChange fnPacketsSpec)

/-- ITS FALSE NEIGHBOUR: 'it returns false'. Refute it at one input. -/
def fnPacketsWrong : ChangeSpec := { name := "fnPackets", fn := fun _ => fun
  | [d] => { results := [.lit (.bool false)], args := [d] }
  | _ => none }
def FnPacketsWrongFalsely : Prop := fnPacketsRow.holds Try.pinned (OpenSpec.ofChange fnPacketsWrong)

/-- 'laws.FnExactFragment': WHATEVER THE INPUT: true; the input reads as it did. -/
def fnExactFragmentSpec : ChangeSpec := { name := "fnExactFragment", fn := fun _ => fun
  | [d1, d2] => { results := [.lit (.bool true)], args := [d1, d2] }
  | _ => none }
def fnExactFragmentRow : OpenClaim := { program := "ytildepkogbcdpaa", sum := "43ab79f9fa426c14d8c97a060bb54d8852dca9607a26f02ece1f85015d96f898", func := "loop.example/g00202/laws.FnExactFragment", spec := "fnExactFragment", apart := false }
def FnExactFragmentSaid : Prop := fnExactFragmentRow.holds Try.pinned (OpenSpec.ofChange fnExactFragmentSpec)

/-- ITS FALSE NEIGHBOUR: 'it returns false'. Refute it at one input. -/
def fnExactFragmentWrong : ChangeSpec := { name := "fnExactFragment", fn := fun _ => fun
  | [d1, d2] => { results := [.lit (.bool false)], args := [d1, d2] }
  | _ => none }
def FnExactFragmentWrongFalsely : Prop := fnExactFragmentRow.holds Try.pinned (OpenSpec.ofChange fnExactFragmentWrong)

/-- 'laws.FnExactAdvert': WHATEVER THE INPUT: true; the input reads as it did. -/
def fnExactAdvertSpec : ChangeSpec := { name := "fnExactAdvert", fn := fun _ => fun
  | [d1, d2, d3] => { results := [.lit (.bool true)], args := [d1, d2, d3] }
  | _ => none }
def fnExactAdvertRow : OpenClaim := { program := "ytildepkogbcdpaa", sum := "43ab79f9fa426c14d8c97a060bb54d8852dca9607a26f02ece1f85015d96f898", func := "loop.example/g00202/laws.FnExactAdvert", spec := "fnExactAdvert", unfollowed := true, recurses := true, apart := false }
def FnExactAdvertSaid : Prop := fnExactAdvertRow.holds Try.pinned (OpenSpec.ofChange fnExactAdvertSpec)

/-- ITS FALSE NEIGHBOUR: 'it returns false'. Refute it at one input. -/
def fnExactAdvertWrong : ChangeSpec := { name := "fnExactAdvert", fn := fun _ => fun
  | [d1, d2, d3] => { results := [.lit (.bool false)], args := [d1, d2, d3] }
  | _ => none }
def FnExactAdvertWrongFalsely : Prop := fnExactAdvertRow.holds Try.pinned (OpenSpec.ofChange fnExactAdvertWrong)

/-- 'laws.FnExpires': WHATEVER THE INPUT: true; the input reads as it did. -/
def fnExpiresSpec : ChangeSpec := { name := "fnExpires", fn := fun _ => fun
  | [d1, d2] => { results := [.lit (.bool true)], args := [d1, d2] }
  | _ => none }
def fnExpiresRow : OpenClaim := { program := "ytildepkogbcdpaa", sum := "43ab79f9fa426c14d8c97a060bb54d8852dca9607a26f02ece1f85015d96f898", func := "loop.example/g00202/laws.FnExpires", spec := "fnExpires", apart := false }
def FnExpiresSaid : Prop := fnExpiresRow.holds Try.pinned (OpenSpec.ofChange fnExpiresSpec)

/-- ITS FALSE NEIGHBOUR: 'it returns false'. Refute it at one input. -/
def fnExpiresWrong : ChangeSpec := { name := "fnExpires", fn := fun _ => fun
  | [d1, d2] => { results := [.lit (.bool false)], args := [d1, d2] }
  | _ => none }
def FnExpiresWrongFalsely : Prop := fnExpiresRow.holds Try.pinned (OpenSpec.ofChange fnExpiresWrong)

/-- 'laws.FnExactDistances': WHATEVER THE INPUT: true; the input reads as it did. -/
def fnExactDistancesSpec : ChangeSpec := { name := "fnExactDistances", fn := fun _ => fun
  | [d] => { results := [.lit (.bool true)], args := [d] }
  | _ => none }
def fnExactDistancesRow : OpenClaim := { program := "ytildepkogbcdpaa", sum := "43ab79f9fa426c14d8c97a060bb54d8852dca9607a26f02ece1f85015d96f898", func := "loop.example/g00202/laws.FnExactDistances", spec := "fnExactDistances", unfollowed := true, recurses := true, apart := false }
def FnExactDistancesSaid : Prop := fnExactDistancesRow.holds Try.pinned (OpenSpec.ofChange fnExactDistancesSpec)

/-- ITS FALSE NEIGHBOUR: 'it returns false'. Refute it at one input. -/
def fnExactDistancesWrong : ChangeSpec := { name := "fnExactDistances", fn := fun _ => fun
  | [d] => { results := [.lit (.bool false)], args := [d] }
  | _ => none }
def FnExactDistancesWrongFalsely : Prop := fnExactDistancesRow.holds Try.pinned (OpenSpec.ofChange fnExactDistancesWrong)

/-- 'laws.FnExactExpire': WHATEVER THE INPUT: true; the input reads as it did. -/
def fnExactExpireSpec : ChangeSpec := { name := "fnExactExpire", fn := fun _ => fun
  | [d1, d2] => { results := [.lit (.bool true)], args := [d1, d2] }
  | _ => none }
def fnExactExpireRow : OpenClaim := { program := "ytildepkogbcdpaa", sum := "43ab79f9fa426c14d8c97a060bb54d8852dca9607a26f02ece1f85015d96f898", func := "loop.example/g00202/laws.FnExactExpire", spec := "fnExactExpire", apart := false }
def FnExactExpireSaid : Prop := fnExactExpireRow.holds Try.pinned (OpenSpec.ofChange fnExactExpireSpec)

/-- ITS FALSE NEIGHBOUR: 'it returns false'. Refute it at one input. -/
def fnExactExpireWrong : ChangeSpec := { name := "fnExactExpire", fn := fun _ => fun
  | [d1, d2] => { results := [.lit (.bool false)], args := [d1, d2] }
  | _ => none }
def FnExactExpireWrongFalsely : Prop := fnExactExpireRow.holds Try.pinned (OpenSpec.ofChange fnExactExpireWrong)

/- THE SECOND FORM. 'bulk': how many values and letters a reading holds, each counted each time it is reached (what is shared counts as often as it is met; a slice's spare places count too). A statement '..UptoSaid' is the law's where the arguments, and the package variables that the reading takes, are together of bulk at most 1048576: NARROWER than '..Said'. Prove '..Said' where nothing that the law and all that it calls make is longer than what came in: it says more and counts as full. Else prove '..UptoSaid'. A law counts once. -/
mutual
def uptoBulk {H : Type} : DataW H → Nat
  | .lit (.string bytes) => bytes.length + 1
  | .lit _ => 1
  | .nil => 1
  | .ptr d => uptoBulk d + 1
  | .slice elems spare => uptoBulkAll elems + uptoBulkAll spare + 1
  | .agg parts => uptoBulkAll parts + 1
  | .iface _ d => uptoBulk d + 1
  | .map entries => uptoBulkEntries entries + 1
  | .held _ => 1
def uptoBulkAll {H : Type} : List (DataW H) → Nat
  | [] => 0
  | d :: r => uptoBulk d + uptoBulkAll r
def uptoBulkEntries {H : Type} : List (Lit × DataW H) → Nat
  | [] => 0
  | x :: r => uptoBulkEntry x + uptoBulkEntries r
def uptoBulkEntry {H : Type} : Lit × DataW H → Nat
  | (.string bytes, d) => bytes.length + uptoBulk d + 1
  | (_, d) => uptoBulk d + 1
 end
def uptoSmall : (H : Type) → List (DataW H) → Bool := fun _ ds => decide (uptoBulkAll ds ≤ 1048576)
def OpenSpec.upto (s : _root_.Go.ChangeSpec) : _root_.Go.OpenSpec := { _root_.Go.OpenSpec.ofChange s with cond := some uptoSmall }

/-- 'laws.FnCuts', WHERE WHAT IT READS IS OF BULK AT MOST 1048576: true; the input reads as it did. -/
def fnCutsUptoRow : OpenClaim := { program := "ytildepkogbcdpaa", sum := "43ab79f9fa426c14d8c97a060bb54d8852dca9607a26f02ece1f85015d96f898", func := "loop.example/g00202/laws.FnCuts", spec := "fnCuts", apart := false, narrowed := true }
def FnCutsUptoSaid : Prop := fnCutsUptoRow.holds Try.pinned (OpenSpec.upto fnCutsSpec)

/-- 'laws.FnExactNewQueues', WHERE WHAT IT READS IS OF BULK AT MOST 1048576: true; the input reads as it did. -/
def fnExactNewQueuesUptoRow : OpenClaim := { program := "ytildepkogbcdpaa", sum := "43ab79f9fa426c14d8c97a060bb54d8852dca9607a26f02ece1f85015d96f898", func := "loop.example/g00202/laws.FnExactNewQueues", spec := "fnExactNewQueues", apart := false, narrowed := true }
def FnExactNewQueuesUptoSaid : Prop := fnExactNewQueuesUptoRow.holds Try.pinned (OpenSpec.upto fnExactNewQueuesSpec)

/-- 'laws.FnExactReadPacket', WHERE WHAT IT READS IS OF BULK AT MOST 1048576: true; the input reads as it did. -/
def fnExactReadPacketUptoRow : OpenClaim := { program := "ytildepkogbcdpaa", sum := "43ab79f9fa426c14d8c97a060bb54d8852dca9607a26f02ece1f85015d96f898", func := "loop.example/g00202/laws.FnExactReadPacket", spec := "fnExactReadPacket", apart := false, narrowed := true }
def FnExactReadPacketUptoSaid : Prop := fnExactReadPacketUptoRow.holds Try.pinned (OpenSpec.upto fnExactReadPacketSpec)

/-- 'laws.FnExactQueuesOK', WHERE WHAT IT READS IS OF BULK AT MOST 1048576: true; the input reads as it did. -/
def fnExactQueuesOKUptoRow : OpenClaim := { program := "ytildepkogbcdpaa", sum := "43ab79f9fa426c14d8c97a060bb54d8852dca9607a26f02ece1f85015d96f898", func := "loop.example/g00202/laws.FnExactQueuesOK", spec := "fnExactQueuesOK", apart := false, narrowed := true }
def FnExactQueuesOKUptoSaid : Prop := fnExactQueuesOKUptoRow.holds Try.pinned (OpenSpec.upto fnExactQueuesOKSpec)

/-- 'laws.FnExactAreaOK', WHERE WHAT IT READS IS OF BULK AT MOST 1048576: true; the input reads as it did. -/
def fnExactAreaOKUptoRow : OpenClaim := { program := "ytildepkogbcdpaa", sum := "43ab79f9fa426c14d8c97a060bb54d8852dca9607a26f02ece1f85015d96f898", func := "loop.example/g00202/laws.FnExactAreaOK", spec := "fnExactAreaOK", unfollowed := true, recurses := true, apart := false, narrowed := true }
def FnExactAreaOKUptoSaid : Prop := fnExactAreaOKUptoRow.holds Try.pinned (OpenSpec.upto fnExactAreaOKSpec)

/-- 'laws.FnExactTrieRoutes', WHERE WHAT IT READS IS OF BULK AT MOST 1048576: true; the input reads as it did. -/
def fnExactTrieRoutesUptoRow : OpenClaim := { program := "ytildepkogbcdpaa", sum := "43ab79f9fa426c14d8c97a060bb54d8852dca9607a26f02ece1f85015d96f898", func := "loop.example/g00202/laws.FnExactTrieRoutes", spec := "fnExactTrieRoutes", recurses := true, loops := true, apart := false, narrowed := true }
def FnExactTrieRoutesUptoSaid : Prop := fnExactTrieRoutesUptoRow.holds Try.pinned (OpenSpec.upto fnExactTrieRoutesSpec)

/-- 'laws.FnPackets', WHERE WHAT IT READS IS OF BULK AT MOST 1048576: true; the input reads as it did. -/
def fnPacketsUptoRow : OpenClaim := { program := "ytildepkogbcdpaa", sum := "43ab79f9fa426c14d8c97a060bb54d8852dca9607a26f02ece1f85015d96f898", func := "loop.example/g00202/laws.FnPackets", spec := "fnPackets", apart := false, narrowed := true }
def FnPacketsUptoSaid : Prop := fnPacketsUptoRow.holds Try.pinned (OpenSpec.upto fnPacketsSpec)

/-- 'laws.FnExactFragment', WHERE WHAT IT READS IS OF BULK AT MOST 1048576: true; the input reads as it did. -/
def fnExactFragmentUptoRow : OpenClaim := { program := "ytildepkogbcdpaa", sum := "43ab79f9fa426c14d8c97a060bb54d8852dca9607a26f02ece1f85015d96f898", func := "loop.example/g00202/laws.FnExactFragment", spec := "fnExactFragment", apart := false, narrowed := true }
def FnExactFragmentUptoSaid : Prop := fnExactFragmentUptoRow.holds Try.pinned (OpenSpec.upto fnExactFragmentSpec)

/-- 'laws.FnExactAdvert', WHERE WHAT IT READS IS OF BULK AT MOST 1048576: true; the input reads as it did. -/
def fnExactAdvertUptoRow : OpenClaim := { program := "ytildepkogbcdpaa", sum := "43ab79f9fa426c14d8c97a060bb54d8852dca9607a26f02ece1f85015d96f898", func := "loop.example/g00202/laws.FnExactAdvert", spec := "fnExactAdvert", unfollowed := true, recurses := true, apart := false, narrowed := true }
def FnExactAdvertUptoSaid : Prop := fnExactAdvertUptoRow.holds Try.pinned (OpenSpec.upto fnExactAdvertSpec)

/-- 'laws.FnExpires', WHERE WHAT IT READS IS OF BULK AT MOST 1048576: true; the input reads as it did. -/
def fnExpiresUptoRow : OpenClaim := { program := "ytildepkogbcdpaa", sum := "43ab79f9fa426c14d8c97a060bb54d8852dca9607a26f02ece1f85015d96f898", func := "loop.example/g00202/laws.FnExpires", spec := "fnExpires", apart := false, narrowed := true }
def FnExpiresUptoSaid : Prop := fnExpiresUptoRow.holds Try.pinned (OpenSpec.upto fnExpiresSpec)

/-- 'laws.FnExactDistances', WHERE WHAT IT READS IS OF BULK AT MOST 1048576: true; the input reads as it did. -/
def fnExactDistancesUptoRow : OpenClaim := { program := "ytildepkogbcdpaa", sum := "43ab79f9fa426c14d8c97a060bb54d8852dca9607a26f02ece1f85015d96f898", func := "loop.example/g00202/laws.FnExactDistances", spec := "fnExactDistances", unfollowed := true, recurses := true, apart := false, narrowed := true }
def FnExactDistancesUptoSaid : Prop := fnExactDistancesUptoRow.holds Try.pinned (OpenSpec.upto fnExactDistancesSpec)

/-- 'laws.FnExactExpire', WHERE WHAT IT READS IS OF BULK AT MOST 1048576: true; the input reads as it did. -/
def fnExactExpireUptoRow : OpenClaim := { program := "ytildepkogbcdpaa", sum := "43ab79f9fa426c14d8c97a060bb54d8852dca9607a26f02ece1f85015d96f898", func := "loop.example/g00202/laws.FnExactExpire", spec := "fnExactExpire", apart := false, narrowed := true }
def FnExactExpireUptoSaid : Prop := fnExactExpireUptoRow.holds Try.pinned (OpenSpec.upto fnExactExpireSpec)

end Rows
end Go.Proofs.Ytildepkogbcdpaa
