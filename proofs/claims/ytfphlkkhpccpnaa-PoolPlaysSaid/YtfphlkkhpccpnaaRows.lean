/-
  No cell of these rows narrows 'for every input' (looked for: loops, veiled, ifaces, maps, wideKeys, modest, calm, conditions, laid).
  DERIVED. THE GIVEN ROWS OF THIS SEAT. 4 by the template 'for every input the law returns true; each argument reads behind the call as it read before'; 0 by the template 'total and deterministic' (their statements: YtfphlkkhpccpnaaTotals.lean).
  GIVEN WITH THE SEED: the statements are not yours to turn. If you find one false, say at which input.
  Laid BY PROGRAM, IN A SANDBOX (cutbox-rows.mjs): the forced cells as the released guide's own fill.sh prints them over the translation 7549a3beded9789c… (all of the seat's roots in one cut). By AI agents, Wed Nov 11 2026. No macro, syntax, notation, axiom, sorry.
-/
import Derived.Test.YtfphlkkhpccpnaaChecked
import GoSem.Claim
import GoSem.ClaimJoined
import GoSem.ClaimMapViews
import Derived.JoinedTies
import Derived.KernelRfl
namespace Go.Proofs.Ytfphlkkhpccpnaa
/- THE CELL 'sum', in the pinned program and in every row, IS THE sha256 OF THE DUMP (.gsa) THAT YtfphlkkhpccpnaaProg.lean LOADS. Nothing in Lean hashes anything: it is a label: what it is worth is what the hold of that sum in a sandbox is worth. -/
noncomputable def Try.pinned : Pinned := { name := "ytfphlkkhpccpnaa", sum := "7549a3beded9789cb63ed0ce7e227f5f204099593e866ef91cbded2bb7a7dca4", checked := Try.checked }
namespace Rows
def none {H : Type} : Left H := { results := [], args := [] }

/-- 'stithylaw19.PoolCopies': WHATEVER THE INPUT: true; the input reads as it did. -/
def poolCopiesSpec : ChangeSpec := { name := "poolCopies", fn := fun _ => fun
  | [d] => { results := [.lit (.bool true)], args := [d] }
  | _ => none }
def poolCopiesRow : OpenClaim := { program := "ytfphlkkhpccpnaa", sum := "7549a3beded9789cb63ed0ce7e227f5f204099593e866ef91cbded2bb7a7dca4", func := "stithy/stithylaw19.PoolCopies", spec := "poolCopies", plainKeys := false, apart := false }
def PoolCopiesSaid : Prop := poolCopiesRow.holds Try.pinned (OpenSpec.ofChange poolCopiesSpec)

/-- ITS FALSE NEIGHBOUR: 'it returns false'. Refute it at one input. -/
def poolCopiesWrong : ChangeSpec := { name := "poolCopies", fn := fun _ => fun
  | [d] => { results := [.lit (.bool false)], args := [d] }
  | _ => none }
def PoolCopiesWrongFalsely : Prop := poolCopiesRow.holds Try.pinned (OpenSpec.ofChange poolCopiesWrong)

/-- 'stithylaw19.PoolOrders': WHATEVER THE INPUT: true; the input reads as it did. -/
def poolOrdersSpec : ChangeSpec := { name := "poolOrders", fn := fun _ => fun
  | [d] => { results := [.lit (.bool true)], args := [d] }
  | _ => none }
def poolOrdersRow : OpenClaim := { program := "ytfphlkkhpccpnaa", sum := "7549a3beded9789cb63ed0ce7e227f5f204099593e866ef91cbded2bb7a7dca4", func := "stithy/stithylaw19.PoolOrders", spec := "poolOrders", unfollowed := true, recurses := true, plainKeys := false, apart := false }
def PoolOrdersSaid : Prop := poolOrdersRow.holds Try.pinned (OpenSpec.ofChange poolOrdersSpec)

/-- ITS FALSE NEIGHBOUR: 'it returns false'. Refute it at one input. -/
def poolOrdersWrong : ChangeSpec := { name := "poolOrders", fn := fun _ => fun
  | [d] => { results := [.lit (.bool false)], args := [d] }
  | _ => none }
def PoolOrdersWrongFalsely : Prop := poolOrdersRow.holds Try.pinned (OpenSpec.ofChange poolOrdersWrong)

/-- 'stithylaw19.PoolPlays': WHATEVER THE INPUT: true; the input reads as it did. -/
def poolPlaysSpec : ChangeSpec := { name := "poolPlays", fn := fun _ => fun
  | [d] => { results := [.lit (.bool true)], args := [d] }
  | _ => none }
def poolPlaysRow : OpenClaim := { program := "ytfphlkkhpccpnaa", sum := "7549a3beded9789cb63ed0ce7e227f5f204099593e866ef91cbded2bb7a7dca4", func := "stithy/stithylaw19.PoolPlays", spec := "poolPlays", unfollowed := true, recurses := true, plainKeys := false, apart := false }
def PoolPlaysSaid : Prop := poolPlaysRow.holds Try.pinned (OpenSpec.ofChange poolPlaysSpec)

/-- ITS FALSE NEIGHBOUR: 'it returns false'. Refute it at one input. -/
def poolPlaysWrong : ChangeSpec := { name := "poolPlays", fn := fun _ => fun
  | [d] => { results := [.lit (.bool false)], args := [d] }
  | _ => none }
def PoolPlaysWrongFalsely : Prop := poolPlaysRow.holds Try.pinned (OpenSpec.ofChange poolPlaysWrong)

/-- 'stithylaw19.PoolRemoves': WHATEVER THE INPUT: true; the input reads as it did. -/
def poolRemovesSpec : ChangeSpec := { name := "poolRemoves", fn := fun _ => fun
  | [d1, d2] => { results := [.lit (.bool true)], args := [d1, d2] }
  | _ => none }
def poolRemovesRow : OpenClaim := { program := "ytfphlkkhpccpnaa", sum := "7549a3beded9789cb63ed0ce7e227f5f204099593e866ef91cbded2bb7a7dca4", func := "stithy/stithylaw19.PoolRemoves", spec := "poolRemoves", unfollowed := true, recurses := true, plainKeys := false, apart := false }
def PoolRemovesSaid : Prop := poolRemovesRow.holds Try.pinned (OpenSpec.ofChange poolRemovesSpec)

/-- ITS FALSE NEIGHBOUR: 'it returns false'. Refute it at one input. -/
def poolRemovesWrong : ChangeSpec := { name := "poolRemoves", fn := fun _ => fun
  | [d1, d2] => { results := [.lit (.bool false)], args := [d1, d2] }
  | _ => none }
def PoolRemovesWrongFalsely : Prop := poolRemovesRow.holds Try.pinned (OpenSpec.ofChange poolRemovesWrong)

/- THE SECOND FORM. 'bulk': how many values and letters a reading holds, each counted each time it is reached (what is shared counts as often as it is met; a slice's spare places count too). A statement '..UptoSaid' is the law's where the arguments, and the package variables that the reading takes, are together of bulk at most 1048576: NARROWER than '..Said'. Prove '..Said' where nothing that the law and all that it calls make is longer than what came in: it says more and counts as full. Else prove '..UptoSaid'. A law counts once. -/
mutual
def uptoBulk {H : Type} : DataW H → Nat
  | .lit (.string bytes) => bytes.length + 1
  | .lit _ => 1
  | .nil => 1
  | .ptr d => uptoBulk d + 1
  | .slice elems spare => uptoBulkAll elems + uptoBulkAll spare + 1
  | .agg parts => uptoBulkAll parts + 1
  | .iface _ d => uptoBulk d + 1
  | .map entries => uptoBulkEntries entries + 1
  | .held _ => 1
def uptoBulkAll {H : Type} : List (DataW H) → Nat
  | [] => 0
  | d :: r => uptoBulk d + uptoBulkAll r
def uptoBulkEntries {H : Type} : List (Lit × DataW H) → Nat
  | [] => 0
  | x :: r => uptoBulkEntry x + uptoBulkEntries r
def uptoBulkEntry {H : Type} : Lit × DataW H → Nat
  | (.string bytes, d) => bytes.length + uptoBulk d + 1
  | (_, d) => uptoBulk d + 1
 end
def uptoSmall : (H : Type) → List (DataW H) → Bool := fun _ ds => decide (uptoBulkAll ds ≤ 1048576)
def OpenSpec.upto (s : _root_.Go.ChangeSpec) : _root_.Go.OpenSpec := { _root_.Go.OpenSpec.ofChange s with cond := some uptoSmall }

/-- 'stithylaw19.PoolCopies', WHERE WHAT IT READS IS OF BULK AT MOST 1048576: true; the input reads as it did. -/
def poolCopiesUptoRow : OpenClaim := { program := "ytfphlkkhpccpnaa", sum := "7549a3beded9789cb63ed0ce7e227f5f204099593e866ef91cbded2bb7a7dca4", func := "stithy/stithylaw19.PoolCopies", spec := "poolCopies", plainKeys := false, apart := false, narrowed := true }
def PoolCopiesUptoSaid : Prop := poolCopiesUptoRow.holds Try.pinned (OpenSpec.upto poolCopiesSpec)

/-- 'stithylaw19.PoolOrders', WHERE WHAT IT READS IS OF BULK AT MOST 1048576: true; the input reads as it did. -/
def poolOrdersUptoRow : OpenClaim := { program := "ytfphlkkhpccpnaa", sum := "7549a3beded9789cb63ed0ce7e227f5f204099593e866ef91cbded2bb7a7dca4", func := "stithy/stithylaw19.PoolOrders", spec := "poolOrders", unfollowed := true, recurses := true, plainKeys := false, apart := false, narrowed := true }
def PoolOrdersUptoSaid : Prop := poolOrdersUptoRow.holds Try.pinned (OpenSpec.upto poolOrdersSpec)

/-- 'stithylaw19.PoolPlays', WHERE WHAT IT READS IS OF BULK AT MOST 1048576: true; the input reads as it did. -/
def poolPlaysUptoRow : OpenClaim := { program := "ytfphlkkhpccpnaa", sum := "7549a3beded9789cb63ed0ce7e227f5f204099593e866ef91cbded2bb7a7dca4", func := "stithy/stithylaw19.PoolPlays", spec := "poolPlays", unfollowed := true, recurses := true, plainKeys := false, apart := false, narrowed := true }
def PoolPlaysUptoSaid : Prop := poolPlaysUptoRow.holds Try.pinned (OpenSpec.upto poolPlaysSpec)

/-- 'stithylaw19.PoolRemoves', WHERE WHAT IT READS IS OF BULK AT MOST 1048576: true; the input reads as it did. -/
def poolRemovesUptoRow : OpenClaim := { program := "ytfphlkkhpccpnaa", sum := "7549a3beded9789cb63ed0ce7e227f5f204099593e866ef91cbded2bb7a7dca4", func := "stithy/stithylaw19.PoolRemoves", spec := "poolRemoves", unfollowed := true, recurses := true, plainKeys := false, apart := false, narrowed := true }
def PoolRemovesUptoSaid : Prop := poolRemovesUptoRow.holds Try.pinned (OpenSpec.upto poolRemovesSpec)

end Rows
end Go.Proofs.Ytfphlkkhpccpnaa
