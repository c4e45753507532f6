/-
  DERIVED. GIVEN WITH THE SEED: THE CARDS: each row of YtfphlkkhpccpnabDoorRows.lean that lists a variable, with what it lists TIED to the program's text (the seventh form; the later family's looks); each row that meets fmt, with fmt's text TOLD by the authors' own Lean function (tested against real Go, not proved from fmt's source: count such statements apart). THE CARD IS WHAT COUNTS. Prove the row's statement (the work); the ties are given (YtfphlkkhpccpnabDoorTie.lean); close each card by the builder's one call (the guide's Derived/Test/ToyasCard.lean, 'card_holds'). Laid BY PROGRAM, IN A SANDBOX (cutbox-door.mjs). By AI agents, Wed Nov 11 2026. No macro, syntax, notation, axiom, sorry.
-/
import Derived.Test.YtfphlkkhpccpnabDoorRows
import GoSem.ClaimSeven
namespace Go.Proofs.YtfphlkkhpccpnabDoor
namespace Rows

/-- THE TIED CARD OF 'stithylaw12.OpJumps'. -/
def opJumpsCard : Claim7 := { stood := { row := opJumpsRow, standIns := [], harness := (true, "6b58f63ec3fec0720650a6f8a8c15ecc5841d4075986db3d0682f07762abb997"), looks := true }, kinds := [], alts := [], laidByText := true, laidKinds := [.data, .data, .data, .data, .sentinel, .sentinel, .pinned], laidTests := true, laidLooks := .later }
def OpJumpsCardSaid : Prop := Claim7.holds Tryd.pinned (.plain (OpenSpec.ofChange opJumpsSpec)) opJumpsCard

/-- THE TIED CARD OF 'stithylaw12.OpText'. -/
def opTextCard : Claim7 := { stood := { row := opTextRow, standIns := [], harness := (true, "6b58f63ec3fec0720650a6f8a8c15ecc5841d4075986db3d0682f07762abb997"), looks := true }, kinds := [], alts := [], laidByText := true, laidKinds := [.data, .data, .data, .data, .sentinel, .sentinel, .pinned], laidTests := true, laidLooks := .later }
def OpTextCardSaid : Prop := Claim7.holds Tryd.pinned (.plain (OpenSpec.ofChange opTextSpec)) opTextCard

/-- THE SECOND FORM's CARD OF 'stithylaw12.OpJumps'. -/
def opJumpsUptoCard : Claim7 := { stood := { row := opJumpsUptoRow, standIns := [], harness := (true, "6b58f63ec3fec0720650a6f8a8c15ecc5841d4075986db3d0682f07762abb997"), looks := true }, kinds := [], alts := [], laidByText := true, laidKinds := [.data, .data, .data, .data, .sentinel, .sentinel, .pinned], laidTests := true, laidLooks := .later }
def OpJumpsUptoCardSaid : Prop := Claim7.holds Tryd.pinned (.plain (OpenSpec.upto opJumpsSpec)) opJumpsUptoCard

/-- THE SECOND FORM's CARD OF 'stithylaw12.OpText'. -/
def opTextUptoCard : Claim7 := { stood := { row := opTextUptoRow, standIns := [], harness := (true, "6b58f63ec3fec0720650a6f8a8c15ecc5841d4075986db3d0682f07762abb997"), looks := true }, kinds := [], alts := [], laidByText := true, laidKinds := [.data, .data, .data, .data, .sentinel, .sentinel, .pinned], laidTests := true, laidLooks := .later }
def OpTextUptoCardSaid : Prop := Claim7.holds Tryd.pinned (.plain (OpenSpec.upto opTextSpec)) opTextUptoCard
end Rows
end Go.Proofs.YtfphlkkhpccpnabDoor
