/-
  DERIVED. GIVEN WITH THE SEED: THE CARDS: each row of YtebmblbfplmcaaaDoorRows.lean that lists a variable, with what it lists TIED to the program's text (the seventh form; the later family's looks); each row that meets fmt, with fmt's text TOLD by the authors' own Lean function (tested against real Go, not proved from fmt's source: count such statements apart). THE CARD IS WHAT COUNTS. Prove the row's statement (the work); the ties are given (YtebmblbfplmcaaaDoorTie.lean); close each card by the builder's one call (the guide's Derived/Test/ToyasCard.lean, 'card_holds'). Laid BY PROGRAM, IN A SANDBOX (cutbox-door.mjs). By AI agents, Wed Nov 11 2026. No macro, syntax, notation, axiom, sorry.
-/
import Derived.Test.YtebmblbfplmcaaaDoorRows
import GoSem.ClaimSeven
namespace Go.Proofs.YtebmblbfplmcaaaDoor
namespace Rows

/-- THE TIED CARD OF 'laws.FnExactReadAddr'. -/
def fnExactReadAddrCard : Claim7 := { stood := { row := fnExactReadAddrRow, standIns := [], harness := (true, "b9c81f338524e84662f08b9ba0afe5910dbbbb9b329bd442735d65987d2f4d74"), looks := false }, kinds := [], alts := [], laidByText := true, laidKinds := [.data, .pinned], laidTests := true, laidLooks := .later }
def FnExactReadAddrCardSaid : Prop := Claim7.holds Tryd.pinned (.plain (OpenSpec.ofChange fnExactReadAddrSpec)) fnExactReadAddrCard

/-- THE TIED CARD OF 'laws.FnExactPrefixBits'. -/
def fnExactPrefixBitsCard : Claim7 := { stood := { row := fnExactPrefixBitsRow, standIns := [], harness := (true, "b9c81f338524e84662f08b9ba0afe5910dbbbb9b329bd442735d65987d2f4d74"), looks := false }, kinds := [], alts := [], laidByText := true, laidKinds := [.data, .pinned], laidTests := true, laidLooks := .later }
def FnExactPrefixBitsCardSaid : Prop := Claim7.holds Tryd.pinned (.plain (OpenSpec.ofChange fnExactPrefixBitsSpec)) fnExactPrefixBitsCard

/-- THE TIED CARD OF 'laws.FnAddrs'. -/
def fnAddrsCard : Claim7 := { stood := { row := fnAddrsRow, standIns := [], harness := (true, "b9c81f338524e84662f08b9ba0afe5910dbbbb9b329bd442735d65987d2f4d74"), looks := false }, kinds := [], alts := [], laidByText := true, laidKinds := [.data, .data, .data, .data, .pinned], laidTests := true, laidLooks := .later }
def FnAddrsCardSaid : Prop := Claim7.holds Tryd.pinned (.plain (OpenSpec.ofChange fnAddrsSpec)) fnAddrsCard

/-- THE SECOND FORM's CARD OF 'laws.FnExactReadAddr'. -/
def fnExactReadAddrUptoCard : Claim7 := { stood := { row := fnExactReadAddrUptoRow, standIns := [], harness := (true, "b9c81f338524e84662f08b9ba0afe5910dbbbb9b329bd442735d65987d2f4d74"), looks := false }, kinds := [], alts := [], laidByText := true, laidKinds := [.data, .pinned], laidTests := true, laidLooks := .later }
def FnExactReadAddrUptoCardSaid : Prop := Claim7.holds Tryd.pinned (.plain (OpenSpec.upto fnExactReadAddrSpec)) fnExactReadAddrUptoCard

/-- THE SECOND FORM's CARD OF 'laws.FnExactPrefixBits'. -/
def fnExactPrefixBitsUptoCard : Claim7 := { stood := { row := fnExactPrefixBitsUptoRow, standIns := [], harness := (true, "b9c81f338524e84662f08b9ba0afe5910dbbbb9b329bd442735d65987d2f4d74"), looks := false }, kinds := [], alts := [], laidByText := true, laidKinds := [.data, .pinned], laidTests := true, laidLooks := .later }
def FnExactPrefixBitsUptoCardSaid : Prop := Claim7.holds Tryd.pinned (.plain (OpenSpec.upto fnExactPrefixBitsSpec)) fnExactPrefixBitsUptoCard

/-- THE SECOND FORM's CARD OF 'laws.FnAddrs'. -/
def fnAddrsUptoCard : Claim7 := { stood := { row := fnAddrsUptoRow, standIns := [], harness := (true, "b9c81f338524e84662f08b9ba0afe5910dbbbb9b329bd442735d65987d2f4d74"), looks := false }, kinds := [], alts := [], laidByText := true, laidKinds := [.data, .data, .data, .data, .pinned], laidTests := true, laidLooks := .later }
def FnAddrsUptoCardSaid : Prop := Claim7.holds Tryd.pinned (.plain (OpenSpec.upto fnAddrsSpec)) fnAddrsUptoCard
end Rows
end Go.Proofs.YtebmblbfplmcaaaDoor
