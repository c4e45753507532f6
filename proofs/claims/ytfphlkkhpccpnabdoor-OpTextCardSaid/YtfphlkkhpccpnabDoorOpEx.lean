/-
  The chapter's examples.
-/
import Derived.Test.YtfphlkkhpccpnabDoorOpText
import Derived.Test.YtfphlkkhpccpnabDoorOpCode
import Derived.Test.YtfphlkkhpccpnabDoorGd
namespace Go.Proofs.YtfphlkkhpccpnabDoor
open Go.RowKit Go.Proofs K
set_option linter.unusedVariables false

def OfP (c : Nat) (w : World) (e : Ending) (w' : World) : Prop := e = .returned (.tuple #[.agg (opD c), .bool (opOf c).isSome]) ∧ Below w.heap.size w w'
theorem ofx (c : Nat) (w : World) (hm : MaxAt w) : Calls Tryd.prog 8 #[.int .u8 c] w (OfP c w) := of_any all_any c w hm
def CodeP (s : List UInt8) (w : World) (e : Ending) (w' : World) : Prop := e = .returned (.tuple #[.int .u8 (nameC s), .bool (opNamed s).isSome]) ∧ Below w.heap.size w w'
theorem codex (s : List UInt8) (w : World) (hm : MaxAt w) : Calls Tryd.prog 9 #[.string (bs s)] w (CodeP s w) := code_any all_any (bs s) w hm
theorem pushx (b : UInt8) (w : World) : Calls Tryd.prog 10 #[.int .u8 (b.toNat : Int)] w (fun e w' => e = .returned (.tuple #[.int .i64 (pushB8 b : Int), .bool (pushB (b.toNat : Int))]) ∧ w = w') := by
  have h8 := b.toNat_lt
  have := push_any (b.toNat : Int) (by omega) (by omega) w
  unfold PushP at this
  rwa [pushN_b] at this
theorem exOf (w : World) (hm : MaxAt w) : Calls Tryd.prog 8 #[.int .u8 1] w (fun e w' => e = .returned (.tuple #[.agg #[.string ⟨#[65, 68, 68]⟩, .int .u64 3, .int .i64 2, .int .i64 1], .bool true]) ∧ Below w.heap.size w w') := ofx 1 w hm
theorem exCode (w : World) (hm : MaxAt w) : Calls Tryd.prog 9 #[.string ⟨#[80, 85, 83, 72, 51, 50]⟩] w (fun e w' => e = .returned (.tuple #[.int .u8 127, .bool true]) ∧ Below w.heap.size w w') := by
  have e1 : nameC [80, 85, 83, 72, 51, 50] = 127 := by decide +kernel
  have e2 : (opNamed [80, 85, 83, 72, 51, 50]).isSome = true := by decide +kernel
  have := codex [80, 85, 83, 72, 51, 50] w hm
  unfold CodeP at this
  rwa [e1, e2] at this
theorem exJumps (w : World) : Calls Tryd.prog 6 #[.string ⟨#[96, 91, 91]⟩] w (IntsP [2] w) := by
  have := jumps_any [96, 91, 91] (by decide) w
  rwa [show jumpsL [96, 91, 91] = [2] by decide +kernel] at this
theorem exPush (w : World) : Calls Tryd.prog 10 #[.int .u8 127] w (fun e w' => e = .returned (.tuple #[.int .i64 32, .bool true]) ∧ w = w') := pushx 127 w
theorem exText (w : World) (hm : MaxAt w) : Calls Tryd.prog 7 #[.string ⟨#[97, 1]⟩] w (TextsP [[80, 85, 83, 72, 50, 32, 48, 120, 48, 49]] w) := by
  have := text_any [97, 1] (by decide) w hm
  rwa [show textsL [97, 1] = [[80, 85, 83, 72, 50, 32, 48, 120, 48, 49]] by decide +kernel] at this
set_option maxRecDepth 100000 in
set_option maxHeartbeats 4000000 in
theorem opex_any (w : World) (hm : MaxAt w) : Calls Tryd.prog 5 #[] w (RetV (.bool true) w) := by
  have HM := Lib.hid hm
  clear hm
  go_enter Tryd.func5, Tryd.ntmps5
  go_wp2_with fail
  refine (exOf _ HM.out).mono ?_
  rintro e w1 ⟨rfl, hb1⟩
  have HS1 := Lib.hid (((St.start (ag_emp w)).grow hb1).alloc (.cells #[.string ⟨#[65, 68, 68]⟩, .int .u64 3, .int .i64 2, .int .i64 1] 35))
  have HM1 := Lib.hid (HM.out.later HS1.out.below)
  clear hb1
  go_wp2_with fail
  refine (exCode _ HM1.out).mono ?_
  rintro e w2 ⟨rfl, hb2⟩
  have HS2 := Lib.hid (HS1.out.grow hb2)
  have HM2 := Lib.hid (HM.out.later HS2.out.below)
  clear hb2 HS1 HM1
  go_wp2_with fail
  refine (exJumps _).mono ?_
  rintro e w3 ⟨v, rfl, S3⟩
  have HS3 := Lib.hid (HS2.out.more S3)
  have HM3 := Lib.hid (HM.out.later HS3.out.below)
  clear S3 HS2 HM2
  obtain ⟨A, c, rfl⟩ := own_slice HS3.out 0 rfl
  obtain ⟨g, rfl, _⟩ := HS3.out.ownForm 0 rfl (by decide)
  go_wp2_with fail
  refine (exPush _).mono ?_
  rintro e w3' ⟨rfl, rfl⟩
  go_wp2_with fail
  refine (exText _ HM3.out).mono ?_
  rintro e w4 ⟨v, rfl, S4⟩
  have HS4 : Hid (St empH w none_ empH w4 [own 9 1 v 1 ([[80, 85, 83, 72, 50, 32, 48, 120, 48, 49]].map strV), own 3 1 (.slice (some ⟨g, 0, none⟩) 1 c) 1 ([2].map intV), blk w1.heap.size (.cells #[.string ⟨#[65, 68, 68]⟩, .int .u64 3, .int .i64 2, .int .i64 1] 35)]) := Lib.hid (HS3.out.more S4)
  clear S4 HS3 HM3
  obtain ⟨A, c', rfl⟩ := own_slice HS4.out 0 rfl
  obtain ⟨g', rfl, _⟩ := HS4.out.ownForm 0 rfl (by decide)
  have c1 : w4.cell? ⟨g', 0, none⟩ = some (.string ⟨#[80, 85, 83, 72, 50, 32, 48, 120, 48, 49]⟩) := HS4.out.ownCell 0 rfl 0 (by decide)
  have c2 : w4.cell? ⟨g, 0, none⟩ = some (.int .i64 2) := HS4.out.ownCell 1 rfl 0 (by decide)
  have d0 : w4.cell? ⟨w1.heap.size, 0, none⟩ = some (.string ⟨#[65, 68, 68]⟩) := HS4.out.cell 2 rfl rfl
  have d1 : w4.cell? ⟨w1.heap.size, 1, none⟩ = some (.int .u64 3) := HS4.out.cell 2 rfl rfl
  have d2 : w4.cell? ⟨w1.heap.size, 2, none⟩ = some (.int .i64 2) := HS4.out.cell 2 rfl rfl
  have d3 : w4.cell? ⟨w1.heap.size, 3, none⟩ = some (.int .i64 1) := HS4.out.cell 2 rfl rfl
  go_wp2_with fail
  go_ret
  exact ⟨rfl, HS4.out.below⟩
end Go.Proofs.YtfphlkkhpccpnabDoor
