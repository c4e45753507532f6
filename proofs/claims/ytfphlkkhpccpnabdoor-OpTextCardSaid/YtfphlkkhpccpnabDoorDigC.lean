/-
  A sixteenth cut out of the digits.
-/
import Derived.Test.YtfphlkkhpccpnabDoorOpHex
namespace Go.Proofs.YtfphlkkhpccpnabDoor
open Go.RowKit Go.Proofs K

theorem dig_cut : ∀ n : Fin 16, digS.extract n.val (n.val + 1) = bs [xd n.val] := by decide
end Go.Proofs.YtfphlkkhpccpnabDoor
