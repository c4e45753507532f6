/-
  NARROWER THAN 'FOR EVERY INPUT', by the rows' own cells (each row's printed sentence says how): ForkNumbers: laid · ForkFull: laid · ForkOnce: laid · ForkPlays: laid · WorldDeletes: laid · WorldMoves: laid · WorldFar: laid · WorldSlots: laid · WorldLoads: laid · WorldBack: laid · WorldPlays: laid.
  DERIVED. THE GIVEN ROWS OF THIS SEAT. 11 by the template 'for every input the law returns true; each argument reads behind the call as it read before'; 0 by the template 'total and deterministic' (their statements: YtdnpobjokajigaaGreatDoorTotals.lean).
  GIVEN WITH THE SEED: the statements are not yours to turn. If you find one false, say at which input.
  Laid BY PROGRAM, IN A SANDBOX (cutbox-rows.mjs): the forced cells as the released guide's own fill.sh prints them over the translation a60f11c4558f6813… (all of the seat's roots in one cut). By AI agents, Wed Nov 11 2026. No macro, syntax, notation, axiom, sorry.
-/
import Derived.Test.YtdnpobjokajigaaGreatDoorChecked
import GoSem.PinnedTables
import GoSem.Claim
import GoSem.ClaimJoined
import GoSem.ClaimMapViews
import Derived.JoinedTies
import Derived.KernelRfl
namespace Go.Proofs.YtdnpobjokajigaaGreatDoor
/- THE CELL 'sum', in the pinned program and in every row, IS THE sha256 OF THE DUMP (.gsa) THAT YtdnpobjokajigaaGreatDoorProg.lean LOADS. Nothing in Lean hashes anything: it is a label: what it is worth is what the hold of that sum in a sandbox is worth. -/
noncomputable def Tryz.pinned : Pinned := { name := "ytdnpobjokajigaagreatdoor", sum := "a60f11c4558f68139572f731ab847c603a4cc08ba73470a7e760047eb50ec609", checked := Tryz.checked }
namespace Rows
def none {H : Type} : Left H := { results := [], args := [] }

/- WHAT THE LISTED PACKAGE-LEVEL VARIABLES READ AS WHEN THE CALL BEGINS. Each datum BY PROGRAM (the guide's laid-datum.mjs) off the statement by which the dump's own 'gosem.cut.vars' lays the variable. In a bare row this is a premise. The card (YtdnpobjokajigaaGreatDoorCards.lean) ties it to the program's text. -/
def laid_unicode_utf8_acceptRanges {H : Type} : DataW H := .agg [.agg [.lit (.int .u8 128), .lit (.int .u8 191)], .agg [.lit (.int .u8 160), .lit (.int .u8 191)], .agg [.lit (.int .u8 128), .lit (.int .u8 159)], .agg [.lit (.int .u8 144), .lit (.int .u8 191)], .agg [.lit (.int .u8 128), .lit (.int .u8 143)], .agg [.lit (.int .u8 0), .lit (.int .u8 0)], .agg [.lit (.int .u8 0), .lit (.int .u8 0)], .agg [.lit (.int .u8 0), .lit (.int .u8 0)], .agg [.lit (.int .u8 0), .lit (.int .u8 0)], .agg [.lit (.int .u8 0), .lit (.int .u8 0)], .agg [.lit (.int .u8 0), .lit (.int .u8 0)], .agg [.lit (.int .u8 0), .lit (.int .u8 0)], .agg [.lit (.int .u8 0), .lit (.int .u8 0)], .agg [.lit (.int .u8 0), .lit (.int .u8 0)], .agg [.lit (.int .u8 0), .lit (.int .u8 0)], .agg [.lit (.int .u8 0), .lit (.int .u8 0)]]
/-- One of Go's own tables, pinned by name: the form's constant. -/
def laid_unicode_utf8_first : DataW Unit := Go.Pinned.utf8First

/-- 'stithylaw09.ForkNumbers': WHATEVER THE INPUT: true; the input reads as it did. -/
def forkNumbersSpec : ChangeSpec := { name := "forkNumbers", fn := fun _ => fun
  | [d1, d2] => { results := [.lit (.bool true)], args := [d1, d2] }
  | _ => none }
def forkNumbersRow : OpenClaim := { program := "ytdnpobjokajigaagreatdoor", sum := "a60f11c4558f68139572f731ab847c603a4cc08ba73470a7e760047eb50ec609", func := "stithy/stithylaw09.ForkNumbers", spec := "forkNumbers", inPlace := ["internal/bytealg.IndexByteString", "internal/bytealg.IndexString", "internal/abi.NoEscape"], unfollowed := true, recurses := true, named := ["unicode/utf8.first", "unicode/utf8.acceptRanges", "internal/bytealg.MaxLen"], plainKeys := false, apart := false, laid := [("unicode/utf8.acceptRanges", laid_unicode_utf8_acceptRanges), ("unicode/utf8.first", laid_unicode_utf8_first)] }
def ForkNumbersSaid : Prop := forkNumbersRow.holds Tryz.pinned (OpenSpec.ofChange forkNumbersSpec)

/-- ITS FALSE NEIGHBOUR: 'it returns false'. Refute it at one input. -/
def forkNumbersWrong : ChangeSpec := { name := "forkNumbers", fn := fun _ => fun
  | [d1, d2] => { results := [.lit (.bool false)], args := [d1, d2] }
  | _ => none }
def ForkNumbersWrongFalsely : Prop := forkNumbersRow.holds Tryz.pinned (OpenSpec.ofChange forkNumbersWrong)

/-- 'stithylaw09.ForkFull': WHATEVER THE INPUT: true; the input reads as it did. -/
def forkFullSpec : ChangeSpec := { name := "forkFull", fn := fun _ => fun
  | [d1, d2, d3] => { results := [.lit (.bool true)], args := [d1, d2, d3] }
  | _ => none }
def forkFullRow : OpenClaim := { program := "ytdnpobjokajigaagreatdoor", sum := "a60f11c4558f68139572f731ab847c603a4cc08ba73470a7e760047eb50ec609", func := "stithy/stithylaw09.ForkFull", spec := "forkFull", inPlace := ["internal/bytealg.IndexByteString", "internal/bytealg.IndexString", "internal/abi.NoEscape"], unfollowed := true, recurses := true, named := ["unicode/utf8.first", "unicode/utf8.acceptRanges", "internal/bytealg.MaxLen"], plainKeys := false, apart := false, laid := [("unicode/utf8.acceptRanges", laid_unicode_utf8_acceptRanges), ("unicode/utf8.first", laid_unicode_utf8_first)] }
def ForkFullSaid : Prop := forkFullRow.holds Tryz.pinned (OpenSpec.ofChange forkFullSpec)

/-- ITS FALSE NEIGHBOUR: 'it returns false'. Refute it at one input. -/
def forkFullWrong : ChangeSpec := { name := "forkFull", fn := fun _ => fun
  | [d1, d2, d3] => { results := [.lit (.bool false)], args := [d1, d2, d3] }
  | _ => none }
def ForkFullWrongFalsely : Prop := forkFullRow.holds Tryz.pinned (OpenSpec.ofChange forkFullWrong)

/-- 'stithylaw09.ForkOnce': WHATEVER THE INPUT: true; the input reads as it did. -/
def forkOnceSpec : ChangeSpec := { name := "forkOnce", fn := fun _ => fun
  | [d1, d2, d3, d4] => { results := [.lit (.bool true)], args := [d1, d2, d3, d4] }
  | _ => none }
def forkOnceRow : OpenClaim := { program := "ytdnpobjokajigaagreatdoor", sum := "a60f11c4558f68139572f731ab847c603a4cc08ba73470a7e760047eb50ec609", func := "stithy/stithylaw09.ForkOnce", spec := "forkOnce", inPlace := ["internal/bytealg.IndexByteString", "internal/bytealg.IndexString", "internal/abi.NoEscape"], unfollowed := true, recurses := true, named := ["unicode/utf8.first", "unicode/utf8.acceptRanges", "internal/bytealg.MaxLen"], plainKeys := false, apart := false, laid := [("unicode/utf8.acceptRanges", laid_unicode_utf8_acceptRanges), ("unicode/utf8.first", laid_unicode_utf8_first)] }
def ForkOnceSaid : Prop := forkOnceRow.holds Tryz.pinned (OpenSpec.ofChange forkOnceSpec)

/-- ITS FALSE NEIGHBOUR: 'it returns false'. Refute it at one input. -/
def forkOnceWrong : ChangeSpec := { name := "forkOnce", fn := fun _ => fun
  | [d1, d2, d3, d4] => { results := [.lit (.bool false)], args := [d1, d2, d3, d4] }
  | _ => none }
def ForkOnceWrongFalsely : Prop := forkOnceRow.holds Tryz.pinned (OpenSpec.ofChange forkOnceWrong)

/-- 'stithylaw09.ForkPlays': WHATEVER THE INPUT: true; the input reads as it did. -/
def forkPlaysSpec : ChangeSpec := { name := "forkPlays", fn := fun _ => fun
  | [d1, d2, d3, d4] => { results := [.lit (.bool true)], args := [d1, d2, d3, d4] }
  | _ => none }
def forkPlaysRow : OpenClaim := { program := "ytdnpobjokajigaagreatdoor", sum := "a60f11c4558f68139572f731ab847c603a4cc08ba73470a7e760047eb50ec609", func := "stithy/stithylaw09.ForkPlays", spec := "forkPlays", inPlace := ["internal/bytealg.IndexByteString", "internal/bytealg.IndexString", "internal/abi.NoEscape"], unfollowed := true, recurses := true, named := ["unicode/utf8.first", "unicode/utf8.acceptRanges", "internal/bytealg.MaxLen"], plainKeys := false, apart := false, laid := [("unicode/utf8.acceptRanges", laid_unicode_utf8_acceptRanges), ("unicode/utf8.first", laid_unicode_utf8_first)] }
def ForkPlaysSaid : Prop := forkPlaysRow.holds Tryz.pinned (OpenSpec.ofChange forkPlaysSpec)

/-- ITS FALSE NEIGHBOUR: 'it returns false'. Refute it at one input. -/
def forkPlaysWrong : ChangeSpec := { name := "forkPlays", fn := fun _ => fun
  | [d1, d2, d3, d4] => { results := [.lit (.bool false)], args := [d1, d2, d3, d4] }
  | _ => none }
def ForkPlaysWrongFalsely : Prop := forkPlaysRow.holds Tryz.pinned (OpenSpec.ofChange forkPlaysWrong)

/-- 'stithylaw10.WorldDeletes': WHATEVER THE INPUT: true; the input reads as it did. -/
def worldDeletesSpec : ChangeSpec := { name := "worldDeletes", fn := fun _ => fun
  | [d1, d2, d3] => { results := [.lit (.bool true)], args := [d1, d2, d3] }
  | _ => none }
def worldDeletesRow : OpenClaim := { program := "ytdnpobjokajigaagreatdoor", sum := "a60f11c4558f68139572f731ab847c603a4cc08ba73470a7e760047eb50ec609", func := "stithy/stithylaw10.WorldDeletes", spec := "worldDeletes", inPlace := ["internal/bytealg.IndexByteString", "internal/bytealg.IndexString", "internal/abi.NoEscape"], unfollowed := true, recurses := true, named := ["unicode/utf8.first", "unicode/utf8.acceptRanges", "internal/bytealg.MaxLen"], plainKeys := false, apart := false, laid := [("unicode/utf8.acceptRanges", laid_unicode_utf8_acceptRanges), ("unicode/utf8.first", laid_unicode_utf8_first)] }
def WorldDeletesSaid : Prop := worldDeletesRow.holds Tryz.pinned (OpenSpec.ofChange worldDeletesSpec)

/-- ITS FALSE NEIGHBOUR: 'it returns false'. Refute it at one input. -/
def worldDeletesWrong : ChangeSpec := { name := "worldDeletes", fn := fun _ => fun
  | [d1, d2, d3] => { results := [.lit (.bool false)], args := [d1, d2, d3] }
  | _ => none }
def WorldDeletesWrongFalsely : Prop := worldDeletesRow.holds Tryz.pinned (OpenSpec.ofChange worldDeletesWrong)

/-- 'stithylaw10.WorldMoves': WHATEVER THE INPUT: true; the input reads as it did. -/
def worldMovesSpec : ChangeSpec := { name := "worldMoves", fn := fun _ => fun
  | [d1, d2, d3] => { results := [.lit (.bool true)], args := [d1, d2, d3] }
  | _ => none }
def worldMovesRow : OpenClaim := { program := "ytdnpobjokajigaagreatdoor", sum := "a60f11c4558f68139572f731ab847c603a4cc08ba73470a7e760047eb50ec609", func := "stithy/stithylaw10.WorldMoves", spec := "worldMoves", inPlace := ["internal/bytealg.IndexByteString", "internal/bytealg.IndexString", "internal/abi.NoEscape", "math/bits.Sub64", "math/bits.Add64"], unfollowed := true, recurses := true, named := ["unicode/utf8.first", "unicode/utf8.acceptRanges", "internal/bytealg.MaxLen"], plainKeys := false, apart := false, laid := [("unicode/utf8.acceptRanges", laid_unicode_utf8_acceptRanges), ("unicode/utf8.first", laid_unicode_utf8_first)] }
def WorldMovesSaid : Prop := worldMovesRow.holds Tryz.pinned (OpenSpec.ofChange worldMovesSpec)

/-- ITS FALSE NEIGHBOUR: 'it returns false'. Refute it at one input. -/
def worldMovesWrong : ChangeSpec := { name := "worldMoves", fn := fun _ => fun
  | [d1, d2, d3] => { results := [.lit (.bool false)], args := [d1, d2, d3] }
  | _ => none }
def WorldMovesWrongFalsely : Prop := worldMovesRow.holds Tryz.pinned (OpenSpec.ofChange worldMovesWrong)

/-- 'stithylaw10.WorldFar': WHATEVER THE INPUT: true; the input reads as it did. -/
def worldFarSpec : ChangeSpec := { name := "worldFar", fn := fun _ => fun
  | [d1, d2, d3] => { results := [.lit (.bool true)], args := [d1, d2, d3] }
  | _ => none }
def worldFarRow : OpenClaim := { program := "ytdnpobjokajigaagreatdoor", sum := "a60f11c4558f68139572f731ab847c603a4cc08ba73470a7e760047eb50ec609", func := "stithy/stithylaw10.WorldFar", spec := "worldFar", inPlace := ["internal/bytealg.IndexByteString", "internal/bytealg.IndexString", "internal/abi.NoEscape"], unfollowed := true, recurses := true, named := ["unicode/utf8.first", "unicode/utf8.acceptRanges", "internal/bytealg.MaxLen"], plainKeys := false, apart := false, laid := [("unicode/utf8.acceptRanges", laid_unicode_utf8_acceptRanges), ("unicode/utf8.first", laid_unicode_utf8_first)] }
def WorldFarSaid : Prop := worldFarRow.holds Tryz.pinned (OpenSpec.ofChange worldFarSpec)

/-- ITS FALSE NEIGHBOUR: 'it returns false'. Refute it at one input. -/
def worldFarWrong : ChangeSpec := { name := "worldFar", fn := fun _ => fun
  | [d1, d2, d3] => { results := [.lit (.bool false)], args := [d1, d2, d3] }
  | _ => none }
def WorldFarWrongFalsely : Prop := worldFarRow.holds Tryz.pinned (OpenSpec.ofChange worldFarWrong)

/-- 'stithylaw10.WorldSlots': WHATEVER THE INPUT: true; the input reads as it did. -/
def worldSlotsSpec : ChangeSpec := { name := "worldSlots", fn := fun _ => fun
  | [d1, d2, d3, d4, d5] => { results := [.lit (.bool true)], args := [d1, d2, d3, d4, d5] }
  | _ => none }
def worldSlotsRow : OpenClaim := { program := "ytdnpobjokajigaagreatdoor", sum := "a60f11c4558f68139572f731ab847c603a4cc08ba73470a7e760047eb50ec609", func := "stithy/stithylaw10.WorldSlots", spec := "worldSlots", inPlace := ["internal/bytealg.IndexByteString", "internal/bytealg.IndexString", "internal/abi.NoEscape", "math/bits.Sub64"], unfollowed := true, recurses := true, named := ["unicode/utf8.first", "unicode/utf8.acceptRanges", "internal/bytealg.MaxLen"], plainKeys := false, apart := false, laid := [("unicode/utf8.acceptRanges", laid_unicode_utf8_acceptRanges), ("unicode/utf8.first", laid_unicode_utf8_first)] }
def WorldSlotsSaid : Prop := worldSlotsRow.holds Tryz.pinned (OpenSpec.ofChange worldSlotsSpec)

/-- ITS FALSE NEIGHBOUR: 'it returns false'. Refute it at one input. -/
def worldSlotsWrong : ChangeSpec := { name := "worldSlots", fn := fun _ => fun
  | [d1, d2, d3, d4, d5] => { results := [.lit (.bool false)], args := [d1, d2, d3, d4, d5] }
  | _ => none }
def WorldSlotsWrongFalsely : Prop := worldSlotsRow.holds Tryz.pinned (OpenSpec.ofChange worldSlotsWrong)

/-- 'stithylaw10.WorldLoads': WHATEVER THE INPUT: true; the input reads as it did. -/
def worldLoadsSpec : ChangeSpec := { name := "worldLoads", fn := fun _ => fun
  | [d1, d2] => { results := [.lit (.bool true)], args := [d1, d2] }
  | _ => none }
def worldLoadsRow : OpenClaim := { program := "ytdnpobjokajigaagreatdoor", sum := "a60f11c4558f68139572f731ab847c603a4cc08ba73470a7e760047eb50ec609", func := "stithy/stithylaw10.WorldLoads", spec := "worldLoads", inPlace := ["internal/bytealg.IndexByteString", "internal/bytealg.IndexString", "internal/abi.NoEscape", "math/bits.Sub64"], unfollowed := true, recurses := true, named := ["unicode/utf8.first", "unicode/utf8.acceptRanges", "internal/bytealg.MaxLen"], plainKeys := false, apart := false, laid := [("unicode/utf8.acceptRanges", laid_unicode_utf8_acceptRanges), ("unicode/utf8.first", laid_unicode_utf8_first)] }
def WorldLoadsSaid : Prop := worldLoadsRow.holds Tryz.pinned (OpenSpec.ofChange worldLoadsSpec)

/-- ITS FALSE NEIGHBOUR: 'it returns false'. Refute it at one input. -/
def worldLoadsWrong : ChangeSpec := { name := "worldLoads", fn := fun _ => fun
  | [d1, d2] => { results := [.lit (.bool false)], args := [d1, d2] }
  | _ => none }
def WorldLoadsWrongFalsely : Prop := worldLoadsRow.holds Tryz.pinned (OpenSpec.ofChange worldLoadsWrong)

/-- 'stithylaw10.WorldBack': WHATEVER THE INPUT: true; the input reads as it did. -/
def worldBackSpec : ChangeSpec := { name := "worldBack", fn := fun _ => fun
  | [d1, d2] => { results := [.lit (.bool true)], args := [d1, d2] }
  | _ => none }
def worldBackRow : OpenClaim := { program := "ytdnpobjokajigaagreatdoor", sum := "a60f11c4558f68139572f731ab847c603a4cc08ba73470a7e760047eb50ec609", func := "stithy/stithylaw10.WorldBack", spec := "worldBack", inPlace := ["internal/bytealg.IndexByteString", "internal/bytealg.IndexString", "internal/abi.NoEscape", "math/bits.Sub64", "math/bits.Add64"], unfollowed := true, recurses := true, named := ["unicode/utf8.first", "unicode/utf8.acceptRanges", "internal/bytealg.MaxLen"], plainKeys := false, apart := false, laid := [("unicode/utf8.acceptRanges", laid_unicode_utf8_acceptRanges), ("unicode/utf8.first", laid_unicode_utf8_first)] }
def WorldBackSaid : Prop := worldBackRow.holds Tryz.pinned (OpenSpec.ofChange worldBackSpec)

/-- ITS FALSE NEIGHBOUR: 'it returns false'. Refute it at one input. -/
def worldBackWrong : ChangeSpec := { name := "worldBack", fn := fun _ => fun
  | [d1, d2] => { results := [.lit (.bool false)], args := [d1, d2] }
  | _ => none }
def WorldBackWrongFalsely : Prop := worldBackRow.holds Tryz.pinned (OpenSpec.ofChange worldBackWrong)

/-- 'stithylaw10.WorldPlays': WHATEVER THE INPUT: true; the input reads as it did. -/
def worldPlaysSpec : ChangeSpec := { name := "worldPlays", fn := fun _ => fun
  | [d1, d2, d3] => { results := [.lit (.bool true)], args := [d1, d2, d3] }
  | _ => none }
def worldPlaysRow : OpenClaim := { program := "ytdnpobjokajigaagreatdoor", sum := "a60f11c4558f68139572f731ab847c603a4cc08ba73470a7e760047eb50ec609", func := "stithy/stithylaw10.WorldPlays", spec := "worldPlays", inPlace := ["internal/bytealg.IndexByteString", "internal/bytealg.IndexString", "internal/abi.NoEscape", "math/bits.Sub64", "math/bits.Add64"], unfollowed := true, recurses := true, named := ["unicode/utf8.first", "unicode/utf8.acceptRanges", "internal/bytealg.MaxLen"], plainKeys := false, apart := false, laid := [("unicode/utf8.acceptRanges", laid_unicode_utf8_acceptRanges), ("unicode/utf8.first", laid_unicode_utf8_first)] }
def WorldPlaysSaid : Prop := worldPlaysRow.holds Tryz.pinned (OpenSpec.ofChange worldPlaysSpec)

/-- ITS FALSE NEIGHBOUR: 'it returns false'. Refute it at one input. -/
def worldPlaysWrong : ChangeSpec := { name := "worldPlays", fn := fun _ => fun
  | [d1, d2, d3] => { results := [.lit (.bool false)], args := [d1, d2, d3] }
  | _ => none }
def WorldPlaysWrongFalsely : Prop := worldPlaysRow.holds Tryz.pinned (OpenSpec.ofChange worldPlaysWrong)

/- THE SECOND FORM. 'bulk': how many values and letters a reading holds, each counted each time it is reached (what is shared counts as often as it is met; a slice's spare places count too). A statement '..UptoSaid' is the law's where the arguments, and the package variables that the reading takes, are together of bulk at most 1048576: NARROWER than '..Said'. Prove '..Said' where nothing that the law and all that it calls make is longer than what came in: it says more and counts as full. Else prove '..UptoSaid'. A law counts once. -/
mutual
def uptoBulk {H : Type} : DataW H → Nat
  | .lit (.string bytes) => bytes.length + 1
  | .lit _ => 1
  | .nil => 1
  | .ptr d => uptoBulk d + 1
  | .slice elems spare => uptoBulkAll elems + uptoBulkAll spare + 1
  | .agg parts => uptoBulkAll parts + 1
  | .iface _ d => uptoBulk d + 1
  | .map entries => uptoBulkEntries entries + 1
  | .held _ => 1
def uptoBulkAll {H : Type} : List (DataW H) → Nat
  | [] => 0
  | d :: r => uptoBulk d + uptoBulkAll r
def uptoBulkEntries {H : Type} : List (Lit × DataW H) → Nat
  | [] => 0
  | x :: r => uptoBulkEntry x + uptoBulkEntries r
def uptoBulkEntry {H : Type} : Lit × DataW H → Nat
  | (.string bytes, d) => bytes.length + uptoBulk d + 1
  | (_, d) => uptoBulk d + 1
 end
def uptoSmall : (H : Type) → List (DataW H) → Bool := fun _ ds => decide (uptoBulkAll ds ≤ 1048576)
def OpenSpec.upto (s : _root_.Go.ChangeSpec) : _root_.Go.OpenSpec := { _root_.Go.OpenSpec.ofChange s with cond := some uptoSmall }

/-- 'stithylaw09.ForkNumbers', WHERE WHAT IT READS IS OF BULK AT MOST 1048576: true; the input reads as it did. -/
def forkNumbersUptoRow : OpenClaim := { program := "ytdnpobjokajigaagreatdoor", sum := "a60f11c4558f68139572f731ab847c603a4cc08ba73470a7e760047eb50ec609", func := "stithy/stithylaw09.ForkNumbers", spec := "forkNumbers", inPlace := ["internal/bytealg.IndexByteString", "internal/bytealg.IndexString", "internal/abi.NoEscape"], unfollowed := true, recurses := true, named := ["unicode/utf8.first", "unicode/utf8.acceptRanges", "internal/bytealg.MaxLen"], plainKeys := false, apart := false, laid := [("unicode/utf8.acceptRanges", laid_unicode_utf8_acceptRanges), ("unicode/utf8.first", laid_unicode_utf8_first)], narrowed := true }
def ForkNumbersUptoSaid : Prop := forkNumbersUptoRow.holds Tryz.pinned (OpenSpec.upto forkNumbersSpec)

/-- 'stithylaw09.ForkFull', WHERE WHAT IT READS IS OF BULK AT MOST 1048576: true; the input reads as it did. -/
def forkFullUptoRow : OpenClaim := { program := "ytdnpobjokajigaagreatdoor", sum := "a60f11c4558f68139572f731ab847c603a4cc08ba73470a7e760047eb50ec609", func := "stithy/stithylaw09.ForkFull", spec := "forkFull", inPlace := ["internal/bytealg.IndexByteString", "internal/bytealg.IndexString", "internal/abi.NoEscape"], unfollowed := true, recurses := true, named := ["unicode/utf8.first", "unicode/utf8.acceptRanges", "internal/bytealg.MaxLen"], plainKeys := false, apart := false, laid := [("unicode/utf8.acceptRanges", laid_unicode_utf8_acceptRanges), ("unicode/utf8.first", laid_unicode_utf8_first)], narrowed := true }
def ForkFullUptoSaid : Prop := forkFullUptoRow.holds Tryz.pinned (OpenSpec.upto forkFullSpec)

/-- 'stithylaw09.ForkOnce', WHERE WHAT IT READS IS OF BULK AT MOST 1048576: true; the input reads as it did. -/
def forkOnceUptoRow : OpenClaim := { program := "ytdnpobjokajigaagreatdoor", sum := "a60f11c4558f68139572f731ab847c603a4cc08ba73470a7e760047eb50ec609", func := "stithy/stithylaw09.ForkOnce", spec := "forkOnce", inPlace := ["internal/bytealg.IndexByteString", "internal/bytealg.IndexString", "internal/abi.NoEscape"], unfollowed := true, recurses := true, named := ["unicode/utf8.first", "unicode/utf8.acceptRanges", "internal/bytealg.MaxLen"], plainKeys := false, apart := false, laid := [("unicode/utf8.acceptRanges", laid_unicode_utf8_acceptRanges), ("unicode/utf8.first", laid_unicode_utf8_first)], narrowed := true }
def ForkOnceUptoSaid : Prop := forkOnceUptoRow.holds Tryz.pinned (OpenSpec.upto forkOnceSpec)

/-- 'stithylaw09.ForkPlays', WHERE WHAT IT READS IS OF BULK AT MOST 1048576: true; the input reads as it did. -/
def forkPlaysUptoRow : OpenClaim := { program := "ytdnpobjokajigaagreatdoor", sum := "a60f11c4558f68139572f731ab847c603a4cc08ba73470a7e760047eb50ec609", func := "stithy/stithylaw09.ForkPlays", spec := "forkPlays", inPlace := ["internal/bytealg.IndexByteString", "internal/bytealg.IndexString", "internal/abi.NoEscape"], unfollowed := true, recurses := true, named := ["unicode/utf8.first", "unicode/utf8.acceptRanges", "internal/bytealg.MaxLen"], plainKeys := false, apart := false, laid := [("unicode/utf8.acceptRanges", laid_unicode_utf8_acceptRanges), ("unicode/utf8.first", laid_unicode_utf8_first)], narrowed := true }
def ForkPlaysUptoSaid : Prop := forkPlaysUptoRow.holds Tryz.pinned (OpenSpec.upto forkPlaysSpec)

/-- 'stithylaw10.WorldDeletes', WHERE WHAT IT READS IS OF BULK AT MOST 1048576: true; the input reads as it did. -/
def worldDeletesUptoRow : OpenClaim := { program := "ytdnpobjokajigaagreatdoor", sum := "a60f11c4558f68139572f731ab847c603a4cc08ba73470a7e760047eb50ec609", func := "stithy/stithylaw10.WorldDeletes", spec := "worldDeletes", inPlace := ["internal/bytealg.IndexByteString", "internal/bytealg.IndexString", "internal/abi.NoEscape"], unfollowed := true, recurses := true, named := ["unicode/utf8.first", "unicode/utf8.acceptRanges", "internal/bytealg.MaxLen"], plainKeys := false, apart := false, laid := [("unicode/utf8.acceptRanges", laid_unicode_utf8_acceptRanges), ("unicode/utf8.first", laid_unicode_utf8_first)], narrowed := true }
def WorldDeletesUptoSaid : Prop := worldDeletesUptoRow.holds Tryz.pinned (OpenSpec.upto worldDeletesSpec)

/-- 'stithylaw10.WorldMoves', WHERE WHAT IT READS IS OF BULK AT MOST 1048576: true; the input reads as it did. -/
def worldMovesUptoRow : OpenClaim := { program := "ytdnpobjokajigaagreatdoor", sum := "a60f11c4558f68139572f731ab847c603a4cc08ba73470a7e760047eb50ec609", func := "stithy/stithylaw10.WorldMoves", spec := "worldMoves", inPlace := ["internal/bytealg.IndexByteString", "internal/bytealg.IndexString", "internal/abi.NoEscape", "math/bits.Sub64", "math/bits.Add64"], unfollowed := true, recurses := true, named := ["unicode/utf8.first", "unicode/utf8.acceptRanges", "internal/bytealg.MaxLen"], plainKeys := false, apart := false, laid := [("unicode/utf8.acceptRanges", laid_unicode_utf8_acceptRanges), ("unicode/utf8.first", laid_unicode_utf8_first)], narrowed := true }
def WorldMovesUptoSaid : Prop := worldMovesUptoRow.holds Tryz.pinned (OpenSpec.upto worldMovesSpec)

/-- 'stithylaw10.WorldFar', WHERE WHAT IT READS IS OF BULK AT MOST 1048576: true; the input reads as it did. -/
def worldFarUptoRow : OpenClaim := { program := "ytdnpobjokajigaagreatdoor", sum := "a60f11c4558f68139572f731ab847c603a4cc08ba73470a7e760047eb50ec609", func := "stithy/stithylaw10.WorldFar", spec := "worldFar", inPlace := ["internal/bytealg.IndexByteString", "internal/bytealg.IndexString", "internal/abi.NoEscape"], unfollowed := true, recurses := true, named := ["unicode/utf8.first", "unicode/utf8.acceptRanges", "internal/bytealg.MaxLen"], plainKeys := false, apart := false, laid := [("unicode/utf8.acceptRanges", laid_unicode_utf8_acceptRanges), ("unicode/utf8.first", laid_unicode_utf8_first)], narrowed := true }
def WorldFarUptoSaid : Prop := worldFarUptoRow.holds Tryz.pinned (OpenSpec.upto worldFarSpec)

/-- 'stithylaw10.WorldSlots', WHERE WHAT IT READS IS OF BULK AT MOST 1048576: true; the input reads as it did. -/
def worldSlotsUptoRow : OpenClaim := { program := "ytdnpobjokajigaagreatdoor", sum := "a60f11c4558f68139572f731ab847c603a4cc08ba73470a7e760047eb50ec609", func := "stithy/stithylaw10.WorldSlots", spec := "worldSlots", inPlace := ["internal/bytealg.IndexByteString", "internal/bytealg.IndexString", "internal/abi.NoEscape", "math/bits.Sub64"], unfollowed := true, recurses := true, named := ["unicode/utf8.first", "unicode/utf8.acceptRanges", "internal/bytealg.MaxLen"], plainKeys := false, apart := false, laid := [("unicode/utf8.acceptRanges", laid_unicode_utf8_acceptRanges), ("unicode/utf8.first", laid_unicode_utf8_first)], narrowed := true }
def WorldSlotsUptoSaid : Prop := worldSlotsUptoRow.holds Tryz.pinned (OpenSpec.upto worldSlotsSpec)

/-- 'stithylaw10.WorldLoads', WHERE WHAT IT READS IS OF BULK AT MOST 1048576: true; the input reads as it did. -/
def worldLoadsUptoRow : OpenClaim := { program := "ytdnpobjokajigaagreatdoor", sum := "a60f11c4558f68139572f731ab847c603a4cc08ba73470a7e760047eb50ec609", func := "stithy/stithylaw10.WorldLoads", spec := "worldLoads", inPlace := ["internal/bytealg.IndexByteString", "internal/bytealg.IndexString", "internal/abi.NoEscape", "math/bits.Sub64"], unfollowed := true, recurses := true, named := ["unicode/utf8.first", "unicode/utf8.acceptRanges", "internal/bytealg.MaxLen"], plainKeys := false, apart := false, laid := [("unicode/utf8.acceptRanges", laid_unicode_utf8_acceptRanges), ("unicode/utf8.first", laid_unicode_utf8_first)], narrowed := true }
def WorldLoadsUptoSaid : Prop := worldLoadsUptoRow.holds Tryz.pinned (OpenSpec.upto worldLoadsSpec)

/-- 'stithylaw10.WorldBack', WHERE WHAT IT READS IS OF BULK AT MOST 1048576: true; the input reads as it did. -/
def worldBackUptoRow : OpenClaim := { program := "ytdnpobjokajigaagreatdoor", sum := "a60f11c4558f68139572f731ab847c603a4cc08ba73470a7e760047eb50ec609", func := "stithy/stithylaw10.WorldBack", spec := "worldBack", inPlace := ["internal/bytealg.IndexByteString", "internal/bytealg.IndexString", "internal/abi.NoEscape", "math/bits.Sub64", "math/bits.Add64"], unfollowed := true, recurses := true, named := ["unicode/utf8.first", "unicode/utf8.acceptRanges", "internal/bytealg.MaxLen"], plainKeys := false, apart := false, laid := [("unicode/utf8.acceptRanges", laid_unicode_utf8_acceptRanges), ("unicode/utf8.first", laid_unicode_utf8_first)], narrowed := true }
def WorldBackUptoSaid : Prop := worldBackUptoRow.holds Tryz.pinned (OpenSpec.upto worldBackSpec)

/-- 'stithylaw10.WorldPlays', WHERE WHAT IT READS IS OF BULK AT MOST 1048576: true; the input reads as it did. -/
def worldPlaysUptoRow : OpenClaim := { program := "ytdnpobjokajigaagreatdoor", sum := "a60f11c4558f68139572f731ab847c603a4cc08ba73470a7e760047eb50ec609", func := "stithy/stithylaw10.WorldPlays", spec := "worldPlays", inPlace := ["internal/bytealg.IndexByteString", "internal/bytealg.IndexString", "internal/abi.NoEscape", "math/bits.Sub64", "math/bits.Add64"], unfollowed := true, recurses := true, named := ["unicode/utf8.first", "unicode/utf8.acceptRanges", "internal/bytealg.MaxLen"], plainKeys := false, apart := false, laid := [("unicode/utf8.acceptRanges", laid_unicode_utf8_acceptRanges), ("unicode/utf8.first", laid_unicode_utf8_first)], narrowed := true }
def WorldPlaysUptoSaid : Prop := worldPlaysUptoRow.holds Tryz.pinned (OpenSpec.upto worldPlaysSpec)

end Rows
end Go.Proofs.YtdnpobjokajigaaGreatDoor
