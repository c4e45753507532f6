/-
  DERIVED. GIVEN WITH THE SEED: THE CARDS: each row of YtfphlkkhpccpnaaDoorRows.lean that lists a variable, with what it lists TIED to the program's text (the seventh form; the later family's looks); each row that meets fmt, with fmt's text TOLD by the authors' own Lean function (tested against real Go, not proved from fmt's source: count such statements apart). THE CARD IS WHAT COUNTS. Prove the row's statement (the work); the ties are given (YtfphlkkhpccpnaaDoorTie.lean); close each card by the builder's one call (the guide's Derived/Test/ToyasCard.lean, 'card_holds'). Laid BY PROGRAM, IN A SANDBOX (cutbox-door.mjs). By AI agents, Wed Nov 11 2026. No macro, syntax, notation, axiom, sorry.
-/
import Derived.Test.YtfphlkkhpccpnaaDoorRows
import GoSem.ClaimSeven
namespace Go.Proofs.YtfphlkkhpccpnaaDoor
namespace Rows

/-- THE TIED CARD OF 'stithylaw08.WireAsks'. -/
def wireAsksCard : Claim7 := { stood := { row := wireAsksRow, standIns := [], harness := (true, "9576835acfd69eb7ba9a323a0b5aff1a9a917efae039870cf1ffac93d3d2b837"), looks := true }, kinds := [], alts := [], laidByText := true, laidKinds := [.data, .pinned], laidTests := true, laidLooks := .later }
def WireAsksCardSaid : Prop := Claim7.holds Tryd.pinned (.plain (OpenSpec.ofChange wireAsksSpec)) wireAsksCard

/-- THE TIED CARD OF 'stithylaw08.WireReplies'. -/
def wireRepliesCard : Claim7 := { stood := { row := wireRepliesRow, standIns := [], harness := (true, "9576835acfd69eb7ba9a323a0b5aff1a9a917efae039870cf1ffac93d3d2b837"), looks := true }, kinds := [], alts := [], laidByText := true, laidKinds := [.data, .pinned], laidTests := true, laidLooks := .later }
def WireRepliesCardSaid : Prop := Claim7.holds Tryd.pinned (.plain (OpenSpec.ofChange wireRepliesSpec)) wireRepliesCard

/-- THE TIED CARD OF 'stithylaw08.WireBack'. -/
def wireBackCard : Claim7 := { stood := { row := wireBackRow, standIns := [], harness := (true, "9576835acfd69eb7ba9a323a0b5aff1a9a917efae039870cf1ffac93d3d2b837"), looks := true }, kinds := [], alts := [], laidByText := true, laidKinds := [.data, .pinned], laidTests := true, laidLooks := .later }
def WireBackCardSaid : Prop := Claim7.holds Tryd.pinned (.plain (OpenSpec.ofChange wireBackSpec)) wireBackCard

/-- THE TIED CARD OF 'stithylaw08.WireRefuses'. -/
def wireRefusesCard : Claim7 := { stood := { row := wireRefusesRow, standIns := [], harness := (true, "9576835acfd69eb7ba9a323a0b5aff1a9a917efae039870cf1ffac93d3d2b837"), looks := true }, kinds := [], alts := [], laidByText := true, laidKinds := [.data, .pinned], laidTests := true, laidLooks := .later }
def WireRefusesCardSaid : Prop := Claim7.holds Tryd.pinned (.plain (OpenSpec.ofChange wireRefusesSpec)) wireRefusesCard

/-- THE TIED CARD OF 'stithylaw08.WireSizes'. -/
def wireSizesCard : Claim7 := { stood := { row := wireSizesRow, standIns := [], harness := (true, "9576835acfd69eb7ba9a323a0b5aff1a9a917efae039870cf1ffac93d3d2b837"), looks := true }, kinds := [], alts := [], laidByText := true, laidKinds := [.data, .pinned], laidTests := true, laidLooks := .later }
def WireSizesCardSaid : Prop := Claim7.holds Tryd.pinned (.plain (OpenSpec.ofChange wireSizesSpec)) wireSizesCard

/-- THE TIED CARD OF 'stithylaw12.OpInfos'. -/
def opInfosCard : Claim7 := { stood := { row := opInfosRow, standIns := [], harness := (true, "9576835acfd69eb7ba9a323a0b5aff1a9a917efae039870cf1ffac93d3d2b837"), looks := true }, kinds := [], alts := [], laidByText := true, laidKinds := [.data, .data, .data, .data, .sentinel, .sentinel, .pinned], laidTests := true, laidLooks := .later }
def OpInfosCardSaid : Prop := Claim7.holds Tryd.pinned (.plain (OpenSpec.ofChange opInfosSpec)) opInfosCard

/-- THE TIED CARD OF 'stithylaw12.OpTexts'. -/
def opTextsCard : Claim7 := { stood := { row := opTextsRow, standIns := [], harness := (true, "9576835acfd69eb7ba9a323a0b5aff1a9a917efae039870cf1ffac93d3d2b837"), looks := true }, kinds := [], alts := [], laidByText := true, laidKinds := [.data, .data, .data, .data, .sentinel, .sentinel, .pinned], laidTests := true, laidLooks := .later }
def OpTextsCardSaid : Prop := Claim7.holds Tryd.pinned (.plain (OpenSpec.ofChange opTextsSpec)) opTextsCard

/-- THE TIED CARD OF 'stithylaw12.OpNames'. -/
def opNamesCard : Claim7 := { stood := { row := opNamesRow, standIns := [], harness := (true, "9576835acfd69eb7ba9a323a0b5aff1a9a917efae039870cf1ffac93d3d2b837"), looks := true }, kinds := [], alts := [], laidByText := true, laidKinds := [.data, .data, .data, .data, .sentinel, .sentinel, .pinned], laidTests := true, laidLooks := .later }
def OpNamesCardSaid : Prop := Claim7.holds Tryd.pinned (.plain (OpenSpec.ofChange opNamesSpec)) opNamesCard

/-- THE SECOND FORM's CARD OF 'stithylaw08.WireAsks'. -/
def wireAsksUptoCard : Claim7 := { stood := { row := wireAsksUptoRow, standIns := [], harness := (true, "9576835acfd69eb7ba9a323a0b5aff1a9a917efae039870cf1ffac93d3d2b837"), looks := true }, kinds := [], alts := [], laidByText := true, laidKinds := [.data, .pinned], laidTests := true, laidLooks := .later }
def WireAsksUptoCardSaid : Prop := Claim7.holds Tryd.pinned (.plain (OpenSpec.upto wireAsksSpec)) wireAsksUptoCard

/-- THE SECOND FORM's CARD OF 'stithylaw08.WireReplies'. -/
def wireRepliesUptoCard : Claim7 := { stood := { row := wireRepliesUptoRow, standIns := [], harness := (true, "9576835acfd69eb7ba9a323a0b5aff1a9a917efae039870cf1ffac93d3d2b837"), looks := true }, kinds := [], alts := [], laidByText := true, laidKinds := [.data, .pinned], laidTests := true, laidLooks := .later }
def WireRepliesUptoCardSaid : Prop := Claim7.holds Tryd.pinned (.plain (OpenSpec.upto wireRepliesSpec)) wireRepliesUptoCard

/-- THE SECOND FORM's CARD OF 'stithylaw08.WireBack'. -/
def wireBackUptoCard : Claim7 := { stood := { row := wireBackUptoRow, standIns := [], harness := (true, "9576835acfd69eb7ba9a323a0b5aff1a9a917efae039870cf1ffac93d3d2b837"), looks := true }, kinds := [], alts := [], laidByText := true, laidKinds := [.data, .pinned], laidTests := true, laidLooks := .later }
def WireBackUptoCardSaid : Prop := Claim7.holds Tryd.pinned (.plain (OpenSpec.upto wireBackSpec)) wireBackUptoCard

/-- THE SECOND FORM's CARD OF 'stithylaw08.WireRefuses'. -/
def wireRefusesUptoCard : Claim7 := { stood := { row := wireRefusesUptoRow, standIns := [], harness := (true, "9576835acfd69eb7ba9a323a0b5aff1a9a917efae039870cf1ffac93d3d2b837"), looks := true }, kinds := [], alts := [], laidByText := true, laidKinds := [.data, .pinned], laidTests := true, laidLooks := .later }
def WireRefusesUptoCardSaid : Prop := Claim7.holds Tryd.pinned (.plain (OpenSpec.upto wireRefusesSpec)) wireRefusesUptoCard

/-- THE SECOND FORM's CARD OF 'stithylaw08.WireSizes'. -/
def wireSizesUptoCard : Claim7 := { stood := { row := wireSizesUptoRow, standIns := [], harness := (true, "9576835acfd69eb7ba9a323a0b5aff1a9a917efae039870cf1ffac93d3d2b837"), looks := true }, kinds := [], alts := [], laidByText := true, laidKinds := [.data, .pinned], laidTests := true, laidLooks := .later }
def WireSizesUptoCardSaid : Prop := Claim7.holds Tryd.pinned (.plain (OpenSpec.upto wireSizesSpec)) wireSizesUptoCard

/-- THE SECOND FORM's CARD OF 'stithylaw12.OpInfos'. -/
def opInfosUptoCard : Claim7 := { stood := { row := opInfosUptoRow, standIns := [], harness := (true, "9576835acfd69eb7ba9a323a0b5aff1a9a917efae039870cf1ffac93d3d2b837"), looks := true }, kinds := [], alts := [], laidByText := true, laidKinds := [.data, .data, .data, .data, .sentinel, .sentinel, .pinned], laidTests := true, laidLooks := .later }
def OpInfosUptoCardSaid : Prop := Claim7.holds Tryd.pinned (.plain (OpenSpec.upto opInfosSpec)) opInfosUptoCard

/-- THE SECOND FORM's CARD OF 'stithylaw12.OpTexts'. -/
def opTextsUptoCard : Claim7 := { stood := { row := opTextsUptoRow, standIns := [], harness := (true, "9576835acfd69eb7ba9a323a0b5aff1a9a917efae039870cf1ffac93d3d2b837"), looks := true }, kinds := [], alts := [], laidByText := true, laidKinds := [.data, .data, .data, .data, .sentinel, .sentinel, .pinned], laidTests := true, laidLooks := .later }
def OpTextsUptoCardSaid : Prop := Claim7.holds Tryd.pinned (.plain (OpenSpec.upto opTextsSpec)) opTextsUptoCard

/-- THE SECOND FORM's CARD OF 'stithylaw12.OpNames'. -/
def opNamesUptoCard : Claim7 := { stood := { row := opNamesUptoRow, standIns := [], harness := (true, "9576835acfd69eb7ba9a323a0b5aff1a9a917efae039870cf1ffac93d3d2b837"), looks := true }, kinds := [], alts := [], laidByText := true, laidKinds := [.data, .data, .data, .data, .sentinel, .sentinel, .pinned], laidTests := true, laidLooks := .later }
def OpNamesUptoCardSaid : Prop := Claim7.holds Tryd.pinned (.plain (OpenSpec.upto opNamesSpec)) opNamesUptoCard
end Rows
end Go.Proofs.YtfphlkkhpccpnaaDoor
