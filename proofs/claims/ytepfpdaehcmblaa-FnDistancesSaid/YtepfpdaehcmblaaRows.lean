/-
  NARROWER THAN 'FOR EVERY INPUT', by the rows' own cells (each row's printed sentence says how): FnExactTrieAdd: loops.
  DERIVED. THE GIVEN ROWS OF THIS SEAT. 6 by the template 'for every input the law returns true; each argument reads behind the call as it read before'; 0 by the template 'total and deterministic' (their statements: YtepfpdaehcmblaaTotals.lean).
  GIVEN WITH THE SEED: the statements are not yours to turn. If you find one false, say at which input.
  Laid BY PROGRAM, IN A SANDBOX (cutbox-rows.mjs): the forced cells as the released guide's own fill.sh prints them over the translation 83de09256e96981c… (all of the seat's roots in one cut). By AI agents, Wed Nov 11 2026. No macro, syntax, notation, axiom, sorry.
-/
import Derived.Test.YtepfpdaehcmblaaChecked
import GoSem.Claim
import GoSem.ClaimJoined
import GoSem.ClaimMapViews
import Derived.JoinedTies
import Derived.KernelRfl
namespace Go.Proofs.Ytepfpdaehcmblaa
/- THE CELL 'sum', in the pinned program and in every row, IS THE sha256 OF THE DUMP (.gsa) THAT YtepfpdaehcmblaaProg.lean LOADS. Nothing in Lean hashes anything: it is a label: what it is worth is what the hold of that sum in a sandbox is worth. -/
noncomputable def Try.pinned : Pinned := { name := "ytepfpdaehcmblaa", sum := "83de09256e96981ccc9199ab45b770accad05cd0ac02446f3f94ee267cbaaa37", checked := Try.checked }
namespace Rows
def none {H : Type} : Left H := { results := [], args := [] }

/-- 'laws.FnDistances': WHATEVER THE INPUT: true; the input reads as it did. -/
def fnDistancesSpec : ChangeSpec := { name := "fnDistances", fn := fun _ => fun
  | [d] => { results := [.lit (.bool true)], args := [d] }
  | _ => none }
def fnDistancesRow : OpenClaim := { program := "ytepfpdaehcmblaa", sum := "83de09256e96981ccc9199ab45b770accad05cd0ac02446f3f94ee267cbaaa37", func := "loop.example/g00202/laws.FnDistances", spec := "fnDistances", unfollowed := true, recurses := true, apart := false }
def FnDistancesSaid : Prop := fnDistancesRow.holds Try.pinned (OpenSpec.ofChange fnDistancesSpec)

/-- ITS FALSE NEIGHBOUR: 'it returns false'. Refute it at one input. -/
def fnDistancesWrong : ChangeSpec := { name := "fnDistances", fn := fun _ => fun
  | [d] => { results := [.lit (.bool false)], args := [d] }
  | _ => none }
def FnDistancesWrongFalsely : Prop := fnDistancesRow.holds Try.pinned (OpenSpec.ofChange fnDistancesWrong)

/-- 'laws.FnPieces': WHATEVER THE INPUT: true; the input reads as it did. -/
def fnPiecesSpec : ChangeSpec := { name := "fnPieces", fn := fun _ => fun
  | [d1, d2] => { results := [.lit (.bool true)], args := [d1, d2] }
  | _ => none }
def fnPiecesRow : OpenClaim := { program := "ytepfpdaehcmblaa", sum := "83de09256e96981ccc9199ab45b770accad05cd0ac02446f3f94ee267cbaaa37", func := "loop.example/g00202/laws.FnPieces", spec := "fnPieces", inPlace := ["slices.overlaps[loop.example/g00202/impl.Piece]"], unfollowed := true, recurses := true, apart := false }
def FnPiecesSaid : Prop := fnPiecesRow.holds Try.pinned (OpenSpec.ofChange fnPiecesSpec)

/-- ITS FALSE NEIGHBOUR: 'it returns false'. Refute it at one input. -/
def fnPiecesWrong : ChangeSpec := { name := "fnPieces", fn := fun _ => fun
  | [d1, d2] => { results := [.lit (.bool false)], args := [d1, d2] }
  | _ => none }
def FnPiecesWrongFalsely : Prop := fnPiecesRow.holds Try.pinned (OpenSpec.ofChange fnPiecesWrong)

/-- 'laws.FnExactFeed': WHATEVER THE INPUT: true; the input reads as it did. -/
def fnExactFeedSpec : ChangeSpec := { name := "fnExactFeed", fn := fun _ => fun
  | [d1, d2, d3] => { results := [.lit (.bool true)], args := [d1, d2, d3] }
  | _ => none }
def fnExactFeedRow : OpenClaim := { program := "ytepfpdaehcmblaa", sum := "83de09256e96981ccc9199ab45b770accad05cd0ac02446f3f94ee267cbaaa37", func := "loop.example/g00202/laws.FnExactFeed", spec := "fnExactFeed", inPlace := ["slices.overlaps[loop.example/g00202/impl.Piece]"], unfollowed := true, recurses := true, apart := false }
def FnExactFeedSaid : Prop := fnExactFeedRow.holds Try.pinned (OpenSpec.ofChange fnExactFeedSpec)

/-- ITS FALSE NEIGHBOUR: 'it returns false'. Refute it at one input. -/
def fnExactFeedWrong : ChangeSpec := { name := "fnExactFeed", fn := fun _ => fun
  | [d1, d2, d3] => { results := [.lit (.bool false)], args := [d1, d2, d3] }
  | _ => none }
def FnExactFeedWrongFalsely : Prop := fnExactFeedRow.holds Try.pinned (OpenSpec.ofChange fnExactFeedWrong)

/-- 'laws.FnExactTrieAdd': WHATEVER THE INPUT: true; the input reads as it did. -/
def fnExactTrieAddSpec : ChangeSpec := { name := "fnExactTrieAdd", fn := fun _ => fun
  | [d1, d2] => { results := [.lit (.bool true)], args := [d1, d2] }
  | _ => none }
def fnExactTrieAddRow : OpenClaim := { program := "ytepfpdaehcmblaa", sum := "83de09256e96981ccc9199ab45b770accad05cd0ac02446f3f94ee267cbaaa37", func := "loop.example/g00202/laws.FnExactTrieAdd", spec := "fnExactTrieAdd", recurses := true, loops := true, apart := false }
def FnExactTrieAddSaid : Prop := fnExactTrieAddRow.holds Try.pinned (OpenSpec.ofChange fnExactTrieAddSpec)

/-- ITS FALSE NEIGHBOUR: 'it returns false'. Refute it at one input. -/
def fnExactTrieAddWrong : ChangeSpec := { name := "fnExactTrieAdd", fn := fun _ => fun
  | [d1, d2] => { results := [.lit (.bool false)], args := [d1, d2] }
  | _ => none }
def FnExactTrieAddWrongFalsely : Prop := fnExactTrieAddRow.holds Try.pinned (OpenSpec.ofChange fnExactTrieAddWrong)

/-- 'laws.FnErrors': WHATEVER THE INPUT: true; the input reads as it did. -/
def fnErrorsSpec : ChangeSpec := { name := "fnErrors", fn := fun _ => fun
  | [d1, d2] => { results := [.lit (.bool true)], args := [d1, d2] }
  | _ => none }
def fnErrorsRow : OpenClaim := { program := "ytepfpdaehcmblaa", sum := "83de09256e96981ccc9199ab45b770accad05cd0ac02446f3f94ee267cbaaa37", func := "loop.example/g00202/laws.FnErrors", spec := "fnErrors", unfollowed := true, recurses := true, apart := false }
def FnErrorsSaid : Prop := fnErrorsRow.holds Try.pinned (OpenSpec.ofChange fnErrorsSpec)

/-- ITS FALSE NEIGHBOUR: 'it returns false'. Refute it at one input. -/
def fnErrorsWrong : ChangeSpec := { name := "fnErrors", fn := fun _ => fun
  | [d1, d2] => { results := [.lit (.bool false)], args := [d1, d2] }
  | _ => none }
def FnErrorsWrongFalsely : Prop := fnErrorsRow.holds Try.pinned (OpenSpec.ofChange fnErrorsWrong)

/-- 'laws.FnForwards': WHATEVER THE INPUT: true; the input reads as it did. -/
def fnForwardsSpec : ChangeSpec := { name := "fnForwards", fn := fun _ => fun
  | [d1, d2] => { results := [.lit (.bool true)], args := [d1, d2] }
  | _ => none }
def fnForwardsRow : OpenClaim := { program := "ytepfpdaehcmblaa", sum := "83de09256e96981ccc9199ab45b770accad05cd0ac02446f3f94ee267cbaaa37", func := "loop.example/g00202/laws.FnForwards", spec := "fnForwards", recurses := true, apart := false }
def FnForwardsSaid : Prop := fnForwardsRow.holds Try.pinned (OpenSpec.ofChange fnForwardsSpec)

/-- ITS FALSE NEIGHBOUR: 'it returns false'. Refute it at one input. -/
def fnForwardsWrong : ChangeSpec := { name := "fnForwards", fn := fun _ => fun
  | [d1, d2] => { results := [.lit (.bool false)], args := [d1, d2] }
  | _ => none }
def FnForwardsWrongFalsely : Prop := fnForwardsRow.holds Try.pinned (OpenSpec.ofChange fnForwardsWrong)

/- THE SECOND FORM. 'bulk': how many values and letters a reading holds, each counted each time it is reached (what is shared counts as often as it is met; a slice's spare places count too). A statement '..UptoSaid' is the law's where the arguments, and the package variables that the reading takes, are together of bulk at most 1048576: NARROWER than '..Said'. Prove '..Said' where nothing that the law and all that it calls make is longer than what came in: it says more and counts as full. Else prove '..UptoSaid'. A law counts once. -/
mutual
def uptoBulk {H : Type} : DataW H → Nat
  | .lit (.string bytes) => bytes.length + 1
  | .lit _ => 1
  | .nil => 1
  | .ptr d => uptoBulk d + 1
  | .slice elems spare => uptoBulkAll elems + uptoBulkAll spare + 1
  | .agg parts => uptoBulkAll parts + 1
  | .iface _ d => uptoBulk d + 1
  | .map entries => uptoBulkEntries entries + 1
  | .held _ => 1
def uptoBulkAll {H : Type} : List (DataW H) → Nat
  | [] => 0
  | d :: r => uptoBulk d + uptoBulkAll r
def uptoBulkEntries {H : Type} : List (Lit × DataW H) → Nat
  | [] => 0
  | x :: r => uptoBulkEntry x + uptoBulkEntries r
def uptoBulkEntry {H : Type} : Lit × DataW H → Nat
  | (.string bytes, d) => bytes.length + uptoBulk d + 1
  | (_, d) => uptoBulk d + 1
 end
def uptoSmall : (H : Type) → List (DataW H) → Bool := fun _ ds => decide (uptoBulkAll ds ≤ 1048576)
def OpenSpec.upto (s : _root_.Go.ChangeSpec) : _root_.Go.OpenSpec := { _root_.Go.OpenSpec.ofChange s with cond := some uptoSmall }

/-- 'laws.FnDistances', WHERE WHAT IT READS IS OF BULK AT MOST 1048576: true; the input reads as it did. -/
def fnDistancesUptoRow : OpenClaim := { program := "ytepfpdaehcmblaa", sum := "83de09256e96981ccc9199ab45b770accad05cd0ac02446f3f94ee267cbaaa37", func := "loop.example/g00202/laws.FnDistances", spec := "fnDistances", unfollowed := true, recurses := true, apart := false, narrowed := true }
def FnDistancesUptoSaid : Prop := fnDistancesUptoRow.holds Try.pinned (OpenSpec.upto fnDistancesSpec)

/-- 'laws.FnPieces', WHERE WHAT IT READS IS OF BULK AT MOST 1048576: true; the input reads as it did. -/
def fnPiecesUptoRow : OpenClaim := { program := "ytepfpdaehcmblaa", sum := "83de09256e96981ccc9199ab45b770accad05cd0ac02446f3f94ee267cbaaa37", func := "loop.example/g00202/laws.FnPieces", spec := "fnPieces", inPlace := ["slices.overlaps[loop.example/g00202/impl.Piece]"], unfollowed := true, recurses := true, apart := false, narrowed := true }
def FnPiecesUptoSaid : Prop := fnPiecesUptoRow.holds Try.pinned (OpenSpec.upto fnPiecesSpec)

/-- 'laws.FnExactFeed', WHERE WHAT IT READS IS OF BULK AT MOST 1048576: true; the input reads as it did. -/
def fnExactFeedUptoRow : OpenClaim := { program := "ytepfpdaehcmblaa", sum := "83de09256e96981ccc9199ab45b770accad05cd0ac02446f3f94ee267cbaaa37", func := "loop.example/g00202/laws.FnExactFeed", spec := "fnExactFeed", inPlace := ["slices.overlaps[loop.example/g00202/impl.Piece]"], unfollowed := true, recurses := true, apart := false, narrowed := true }
def FnExactFeedUptoSaid : Prop := fnExactFeedUptoRow.holds Try.pinned (OpenSpec.upto fnExactFeedSpec)

/-- 'laws.FnExactTrieAdd', WHERE WHAT IT READS IS OF BULK AT MOST 1048576: true; the input reads as it did. -/
def fnExactTrieAddUptoRow : OpenClaim := { program := "ytepfpdaehcmblaa", sum := "83de09256e96981ccc9199ab45b770accad05cd0ac02446f3f94ee267cbaaa37", func := "loop.example/g00202/laws.FnExactTrieAdd", spec := "fnExactTrieAdd", recurses := true, loops := true, apart := false, narrowed := true }
def FnExactTrieAddUptoSaid : Prop := fnExactTrieAddUptoRow.holds Try.pinned (OpenSpec.upto fnExactTrieAddSpec)

/-- 'laws.FnErrors', WHERE WHAT IT READS IS OF BULK AT MOST 1048576: true; the input reads as it did. -/
def fnErrorsUptoRow : OpenClaim := { program := "ytepfpdaehcmblaa", sum := "83de09256e96981ccc9199ab45b770accad05cd0ac02446f3f94ee267cbaaa37", func := "loop.example/g00202/laws.FnErrors", spec := "fnErrors", unfollowed := true, recurses := true, apart := false, narrowed := true }
def FnErrorsUptoSaid : Prop := fnErrorsUptoRow.holds Try.pinned (OpenSpec.upto fnErrorsSpec)

/-- 'laws.FnForwards', WHERE WHAT IT READS IS OF BULK AT MOST 1048576: true; the input reads as it did. -/
def fnForwardsUptoRow : OpenClaim := { program := "ytepfpdaehcmblaa", sum := "83de09256e96981ccc9199ab45b770accad05cd0ac02446f3f94ee267cbaaa37", func := "loop.example/g00202/laws.FnForwards", spec := "fnForwards", recurses := true, apart := false, narrowed := true }
def FnForwardsUptoSaid : Prop := fnForwardsUptoRow.holds Try.pinned (OpenSpec.upto fnForwardsSpec)

end Rows
end Go.Proofs.Ytepfpdaehcmblaa
