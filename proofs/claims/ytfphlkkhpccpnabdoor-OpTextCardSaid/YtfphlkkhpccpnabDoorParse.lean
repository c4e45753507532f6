/-
  strconv.ParseUint on at most two sixteenths.
-/
import Derived.Test.YtfphlkkhpccpnabDoorHexN
namespace Go.Proofs.YtfphlkkhpccpnabDoor
open Go.RowKit Go.Proofs K
set_option linter.unusedVariables false

theorem parse_any (l : List UInt8) (hl : l.length ≤ 2) (h0 : 0 < l.length) (hx : ∀ b ∈ l, isHex b) (w : World) :
    Calls Tryd.prog 18 #[.string (bs l), .int .i64 16, .int .i64 8] w (RetV (.tuple #[.int .u64 (hexV l), .nilIface]) w) := by
  have HP := Lib.hid (parse16_any l hl h0 hx)
  clear hx hl h0
  go_enter Tryd.func18, Tryd.ntmps18
  go_wp2_with fail
  refine (HP.out _).mono ?_
  rintro e w1 ⟨rfl, hb⟩
  have HB := Lib.hid hb
  clear hb
  go_wp2_with fail
  go_ret2
  exact ⟨rfl, HB.out⟩
end Go.Proofs.YtfphlkkhpccpnabDoor
