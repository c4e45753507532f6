/-
  Of, on what All tells.
-/
import Derived.Test.YtfphlkkhpccpnabDoorOpM
namespace Go.Proofs.YtfphlkkhpccpnabDoor
open Go.RowKit Go.Proofs K
set_option linter.unusedVariables false

theorem zeroInfo (w : World) : (zeroValue 35).run Tryd.prog w = .ok (.agg opZ) w := by kernel_rfl
theorem szInfo : (Tryd.prog.info? 35).map (·.size) = some 4 := by kernel_rfl
def opD (c : Nat) : Array Value := match opOf c with | some e => opC e | none => opZ
theorem opD_one (c : Nat) : (opD c).all (·.oneCell') = true := by
  unfold opD
  split <;> simp [opC, opZ, Value.oneCell']
theorem opD_size (c : Nat) : (opD c).size = 4 := by
  unfold opD
  split <;> rfl
theorem opD_look (c : Nat) : (mlook opM (c : Int)).getD (.agg opZ) = .agg (opD c) ∧ (mlook opM (c : Int)).isSome = (opOf c).isSome := by
  rw [opM_look]
  unfold opD
  cases opOf c <;> exact ⟨rfl, rfl⟩
set_option maxRecDepth 100000 in
theorem of_any (HA : ∀ w, MaxAt w → Calls Tryd.prog 13 #[] w (AllP w)) (c : Nat) (w : World) (hm : MaxAt w) : Calls Tryd.prog 8 #[.int .u8 c] w (fun e w' => e = .returned (.tuple #[.agg (opD c), .bool (opOf c).isSome]) ∧ Below w.heap.size w w') := by
  have HS := Lib.hid ((St.start (ag_emp w)).alloc (.cells opZ 35))
  have HALL := Lib.hid HA
  have HL := Lib.hid (opD_look c)
  have HM := Lib.hid (hm.later HS.out.below)
  clear HA hm
  go_enter Tryd.func8, Tryd.ntmps8
  go_wp2_with fail
  refine (HALL.out _ HM.out).mono ?_
  rintro e w1 ⟨k, rfl, S1⟩
  have HS1 : Hid (St empH w none_ empH w1 [mapP encU8 k opM, blk w.heap.size (.cells opZ 35)]) := HS.out.more S1
  have HS2 : Hid (St empH w none_ empH (w1.alloc (.cells opZ 35)) [blk w1.heap.size (.cells opZ 35), mapP encU8 k opM, blk w.heap.size (.cells opZ 35)]) := HS1.out.alloc _
  clear S1 HS
  go_wp2_with (first
    | (refine wpList_lookup_st 0 HS1.out rfl keyU8 Tryd.underlying44 (zeroInfo _) (c : Int) rfl (.tmp 9) (.tmp 10) true rfl rfl rfl ?_; rw [HL.out.1, HL.out.2]; simp only [if_true])
    | (refine wpList_store_st (cs := opD c) 0 HS2.out rfl rfl 35 (.tmp 5) (.tmp 12) rfl rfl rfl (by rw [opD_size]; exact szInfo) (by rw [opD_size]; rfl) (opD_one c) ?_)
    | fail)
  intro w2 S3
  have HS3 : Hid (St empH w none_ empH w2 [blk w1.heap.size (.cells (opD c) 35), mapP encU8 k opM, blk w.heap.size (.cells opZ 35)]) := S3
  clear S3 HS1 HS2
  go_wp2_with (first
    | (refine wpList_load_st (cs := opD c) 0 HS3.out rfl rfl 35 (.tmp 5) rfl rfl _ Tryd.underlying35 rfl (by rw [opD_size]; exact szInfo) ?_)
    | (refine wpList_store_st (cs := opD c) 2 HS3.out rfl rfl 35 (.tmp 2) (.tmp 14) rfl rfl rfl (by rw [opD_size]; exact szInfo) (by rw [opD_size]; rfl) (opD_one c) ?_)
    | fail)
  intro w3 S4
  go_wp2_with fail
  exact post_cell2 0 S4 rfl Tryd.results8 rfl _ Tryd.underlying35 rfl (by rw [opD_size]; exact szInfo) rfl ⟨rfl, S4.below⟩
end Go.Proofs.YtfphlkkhpccpnabDoor
