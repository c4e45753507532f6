/-
  DERIVED. GIVEN WITH THE SEED: THE CARDS: each row of YtdnpobjokajigaaGreatDoorRows.lean that lists a variable, with what it lists TIED to the program's text (the seventh form; the later family's looks); each row that meets fmt, with fmt's text TOLD by the authors' own Lean function (tested against real Go, not proved from fmt's source: count such statements apart). THE CARD IS WHAT COUNTS. Prove the row's statement (the work); the ties are given (YtdnpobjokajigaaGreatDoorTie.lean); close each card by the builder's one call (the guide's Derived/Test/ToyasCard.lean, 'card_holds'). Laid BY PROGRAM, IN A SANDBOX (cutbox-door.mjs). By AI agents, Wed Nov 11 2026. No macro, syntax, notation, axiom, sorry.
-/
import Derived.Test.YtdnpobjokajigaaGreatDoorRows
import GoSem.ClaimSeven
namespace Go.Proofs.YtdnpobjokajigaaGreatDoor
namespace Rows

/-- THE TIED CARD OF 'stithylaw09.ForkNumbers'. -/
def forkNumbersCard : Claim7 := { stood := { row := forkNumbersRow, standIns := [], harness := (true, "948b148cfd9b284f37f0a4b678477ef2cbaa4410f867ccbf5e706ac36bd35c16"), looks := true }, kinds := [], alts := [], laidByText := true, laidKinds := [.data, .pinned], laidTests := true, laidLooks := .later }
def ForkNumbersCardSaid : Prop := Claim7.holds Tryz.pinned (.plain (OpenSpec.ofChange forkNumbersSpec)) forkNumbersCard

/-- THE TIED CARD OF 'stithylaw09.ForkFull'. -/
def forkFullCard : Claim7 := { stood := { row := forkFullRow, standIns := [], harness := (true, "948b148cfd9b284f37f0a4b678477ef2cbaa4410f867ccbf5e706ac36bd35c16"), looks := true }, kinds := [], alts := [], laidByText := true, laidKinds := [.data, .pinned], laidTests := true, laidLooks := .later }
def ForkFullCardSaid : Prop := Claim7.holds Tryz.pinned (.plain (OpenSpec.ofChange forkFullSpec)) forkFullCard

/-- THE TIED CARD OF 'stithylaw09.ForkOnce'. -/
def forkOnceCard : Claim7 := { stood := { row := forkOnceRow, standIns := [], harness := (true, "948b148cfd9b284f37f0a4b678477ef2cbaa4410f867ccbf5e706ac36bd35c16"), looks := true }, kinds := [], alts := [], laidByText := true, laidKinds := [.data, .pinned], laidTests := true, laidLooks := .later }
def ForkOnceCardSaid : Prop := Claim7.holds Tryz.pinned (.plain (OpenSpec.ofChange forkOnceSpec)) forkOnceCard

/-- THE TIED CARD OF 'stithylaw09.ForkPlays'. -/
def forkPlaysCard : Claim7 := { stood := { row := forkPlaysRow, standIns := [], harness := (true, "948b148cfd9b284f37f0a4b678477ef2cbaa4410f867ccbf5e706ac36bd35c16"), looks := true }, kinds := [], alts := [], laidByText := true, laidKinds := [.data, .pinned], laidTests := true, laidLooks := .later }
def ForkPlaysCardSaid : Prop := Claim7.holds Tryz.pinned (.plain (OpenSpec.ofChange forkPlaysSpec)) forkPlaysCard

/-- THE TIED CARD OF 'stithylaw10.WorldDeletes'. -/
def worldDeletesCard : Claim7 := { stood := { row := worldDeletesRow, standIns := [], harness := (true, "948b148cfd9b284f37f0a4b678477ef2cbaa4410f867ccbf5e706ac36bd35c16"), looks := true }, kinds := [], alts := [], laidByText := true, laidKinds := [.data, .pinned], laidTests := true, laidLooks := .later }
def WorldDeletesCardSaid : Prop := Claim7.holds Tryz.pinned (.plain (OpenSpec.ofChange worldDeletesSpec)) worldDeletesCard

/-- THE TIED CARD OF 'stithylaw10.WorldMoves'. -/
def worldMovesCard : Claim7 := { stood := { row := worldMovesRow, standIns := [], harness := (true, "948b148cfd9b284f37f0a4b678477ef2cbaa4410f867ccbf5e706ac36bd35c16"), looks := true }, kinds := [], alts := [], laidByText := true, laidKinds := [.data, .pinned], laidTests := true, laidLooks := .later }
def WorldMovesCardSaid : Prop := Claim7.holds Tryz.pinned (.plain (OpenSpec.ofChange worldMovesSpec)) worldMovesCard

/-- THE TIED CARD OF 'stithylaw10.WorldFar'. -/
def worldFarCard : Claim7 := { stood := { row := worldFarRow, standIns := [], harness := (true, "948b148cfd9b284f37f0a4b678477ef2cbaa4410f867ccbf5e706ac36bd35c16"), looks := true }, kinds := [], alts := [], laidByText := true, laidKinds := [.data, .pinned], laidTests := true, laidLooks := .later }
def WorldFarCardSaid : Prop := Claim7.holds Tryz.pinned (.plain (OpenSpec.ofChange worldFarSpec)) worldFarCard

/-- THE TIED CARD OF 'stithylaw10.WorldSlots'. -/
def worldSlotsCard : Claim7 := { stood := { row := worldSlotsRow, standIns := [], harness := (true, "948b148cfd9b284f37f0a4b678477ef2cbaa4410f867ccbf5e706ac36bd35c16"), looks := true }, kinds := [], alts := [], laidByText := true, laidKinds := [.data, .pinned], laidTests := true, laidLooks := .later }
def WorldSlotsCardSaid : Prop := Claim7.holds Tryz.pinned (.plain (OpenSpec.ofChange worldSlotsSpec)) worldSlotsCard

/-- THE TIED CARD OF 'stithylaw10.WorldLoads'. -/
def worldLoadsCard : Claim7 := { stood := { row := worldLoadsRow, standIns := [], harness := (true, "948b148cfd9b284f37f0a4b678477ef2cbaa4410f867ccbf5e706ac36bd35c16"), looks := true }, kinds := [], alts := [], laidByText := true, laidKinds := [.data, .pinned], laidTests := true, laidLooks := .later }
def WorldLoadsCardSaid : Prop := Claim7.holds Tryz.pinned (.plain (OpenSpec.ofChange worldLoadsSpec)) worldLoadsCard

/-- THE TIED CARD OF 'stithylaw10.WorldBack'. -/
def worldBackCard : Claim7 := { stood := { row := worldBackRow, standIns := [], harness := (true, "948b148cfd9b284f37f0a4b678477ef2cbaa4410f867ccbf5e706ac36bd35c16"), looks := true }, kinds := [], alts := [], laidByText := true, laidKinds := [.data, .pinned], laidTests := true, laidLooks := .later }
def WorldBackCardSaid : Prop := Claim7.holds Tryz.pinned (.plain (OpenSpec.ofChange worldBackSpec)) worldBackCard

/-- THE TIED CARD OF 'stithylaw10.WorldPlays'. -/
def worldPlaysCard : Claim7 := { stood := { row := worldPlaysRow, standIns := [], harness := (true, "948b148cfd9b284f37f0a4b678477ef2cbaa4410f867ccbf5e706ac36bd35c16"), looks := true }, kinds := [], alts := [], laidByText := true, laidKinds := [.data, .pinned], laidTests := true, laidLooks := .later }
def WorldPlaysCardSaid : Prop := Claim7.holds Tryz.pinned (.plain (OpenSpec.ofChange worldPlaysSpec)) worldPlaysCard

/-- THE SECOND FORM's CARD OF 'stithylaw09.ForkNumbers'. -/
def forkNumbersUptoCard : Claim7 := { stood := { row := forkNumbersUptoRow, standIns := [], harness := (true, "948b148cfd9b284f37f0a4b678477ef2cbaa4410f867ccbf5e706ac36bd35c16"), looks := true }, kinds := [], alts := [], laidByText := true, laidKinds := [.data, .pinned], laidTests := true, laidLooks := .later }
def ForkNumbersUptoCardSaid : Prop := Claim7.holds Tryz.pinned (.plain (OpenSpec.upto forkNumbersSpec)) forkNumbersUptoCard

/-- THE SECOND FORM's CARD OF 'stithylaw09.ForkFull'. -/
def forkFullUptoCard : Claim7 := { stood := { row := forkFullUptoRow, standIns := [], harness := (true, "948b148cfd9b284f37f0a4b678477ef2cbaa4410f867ccbf5e706ac36bd35c16"), looks := true }, kinds := [], alts := [], laidByText := true, laidKinds := [.data, .pinned], laidTests := true, laidLooks := .later }
def ForkFullUptoCardSaid : Prop := Claim7.holds Tryz.pinned (.plain (OpenSpec.upto forkFullSpec)) forkFullUptoCard

/-- THE SECOND FORM's CARD OF 'stithylaw09.ForkOnce'. -/
def forkOnceUptoCard : Claim7 := { stood := { row := forkOnceUptoRow, standIns := [], harness := (true, "948b148cfd9b284f37f0a4b678477ef2cbaa4410f867ccbf5e706ac36bd35c16"), looks := true }, kinds := [], alts := [], laidByText := true, laidKinds := [.data, .pinned], laidTests := true, laidLooks := .later }
def ForkOnceUptoCardSaid : Prop := Claim7.holds Tryz.pinned (.plain (OpenSpec.upto forkOnceSpec)) forkOnceUptoCard

/-- THE SECOND FORM's CARD OF 'stithylaw09.ForkPlays'. -/
def forkPlaysUptoCard : Claim7 := { stood := { row := forkPlaysUptoRow, standIns := [], harness := (true, "948b148cfd9b284f37f0a4b678477ef2cbaa4410f867ccbf5e706ac36bd35c16"), looks := true }, kinds := [], alts := [], laidByText := true, laidKinds := [.data, .pinned], laidTests := true, laidLooks := .later }
def ForkPlaysUptoCardSaid : Prop := Claim7.holds Tryz.pinned (.plain (OpenSpec.upto forkPlaysSpec)) forkPlaysUptoCard

/-- THE SECOND FORM's CARD OF 'stithylaw10.WorldDeletes'. -/
def worldDeletesUptoCard : Claim7 := { stood := { row := worldDeletesUptoRow, standIns := [], harness := (true, "948b148cfd9b284f37f0a4b678477ef2cbaa4410f867ccbf5e706ac36bd35c16"), looks := true }, kinds := [], alts := [], laidByText := true, laidKinds := [.data, .pinned], laidTests := true, laidLooks := .later }
def WorldDeletesUptoCardSaid : Prop := Claim7.holds Tryz.pinned (.plain (OpenSpec.upto worldDeletesSpec)) worldDeletesUptoCard

/-- THE SECOND FORM's CARD OF 'stithylaw10.WorldMoves'. -/
def worldMovesUptoCard : Claim7 := { stood := { row := worldMovesUptoRow, standIns := [], harness := (true, "948b148cfd9b284f37f0a4b678477ef2cbaa4410f867ccbf5e706ac36bd35c16"), looks := true }, kinds := [], alts := [], laidByText := true, laidKinds := [.data, .pinned], laidTests := true, laidLooks := .later }
def WorldMovesUptoCardSaid : Prop := Claim7.holds Tryz.pinned (.plain (OpenSpec.upto worldMovesSpec)) worldMovesUptoCard

/-- THE SECOND FORM's CARD OF 'stithylaw10.WorldFar'. -/
def worldFarUptoCard : Claim7 := { stood := { row := worldFarUptoRow, standIns := [], harness := (true, "948b148cfd9b284f37f0a4b678477ef2cbaa4410f867ccbf5e706ac36bd35c16"), looks := true }, kinds := [], alts := [], laidByText := true, laidKinds := [.data, .pinned], laidTests := true, laidLooks := .later }
def WorldFarUptoCardSaid : Prop := Claim7.holds Tryz.pinned (.plain (OpenSpec.upto worldFarSpec)) worldFarUptoCard

/-- THE SECOND FORM's CARD OF 'stithylaw10.WorldSlots'. -/
def worldSlotsUptoCard : Claim7 := { stood := { row := worldSlotsUptoRow, standIns := [], harness := (true, "948b148cfd9b284f37f0a4b678477ef2cbaa4410f867ccbf5e706ac36bd35c16"), looks := true }, kinds := [], alts := [], laidByText := true, laidKinds := [.data, .pinned], laidTests := true, laidLooks := .later }
def WorldSlotsUptoCardSaid : Prop := Claim7.holds Tryz.pinned (.plain (OpenSpec.upto worldSlotsSpec)) worldSlotsUptoCard

/-- THE SECOND FORM's CARD OF 'stithylaw10.WorldLoads'. -/
def worldLoadsUptoCard : Claim7 := { stood := { row := worldLoadsUptoRow, standIns := [], harness := (true, "948b148cfd9b284f37f0a4b678477ef2cbaa4410f867ccbf5e706ac36bd35c16"), looks := true }, kinds := [], alts := [], laidByText := true, laidKinds := [.data, .pinned], laidTests := true, laidLooks := .later }
def WorldLoadsUptoCardSaid : Prop := Claim7.holds Tryz.pinned (.plain (OpenSpec.upto worldLoadsSpec)) worldLoadsUptoCard

/-- THE SECOND FORM's CARD OF 'stithylaw10.WorldBack'. -/
def worldBackUptoCard : Claim7 := { stood := { row := worldBackUptoRow, standIns := [], harness := (true, "948b148cfd9b284f37f0a4b678477ef2cbaa4410f867ccbf5e706ac36bd35c16"), looks := true }, kinds := [], alts := [], laidByText := true, laidKinds := [.data, .pinned], laidTests := true, laidLooks := .later }
def WorldBackUptoCardSaid : Prop := Claim7.holds Tryz.pinned (.plain (OpenSpec.upto worldBackSpec)) worldBackUptoCard

/-- THE SECOND FORM's CARD OF 'stithylaw10.WorldPlays'. -/
def worldPlaysUptoCard : Claim7 := { stood := { row := worldPlaysUptoRow, standIns := [], harness := (true, "948b148cfd9b284f37f0a4b678477ef2cbaa4410f867ccbf5e706ac36bd35c16"), looks := true }, kinds := [], alts := [], laidByText := true, laidKinds := [.data, .pinned], laidTests := true, laidLooks := .later }
def WorldPlaysUptoCardSaid : Prop := Claim7.holds Tryz.pinned (.plain (OpenSpec.upto worldPlaysSpec)) worldPlaysUptoCard
end Rows
end Go.Proofs.YtdnpobjokajigaaGreatDoor
