/-
  OpText: the tied card.
-/
import Derived.Test.YtfphlkkhpccpnabDoorRowText
import Derived.Test.YtfphlkkhpccpnabDoorCards
import Derived.SevenTiedAt
namespace Go.Proofs.YtfphlkkhpccpnabDoor
open Go

/-- The statement. -/
theorem opText_holds : Rows.OpTextCardSaid :=
  Claim7.holds_tied_plain_at .later [] [.data, .data, .data, .data, .sentinel, .sentinel, .pinned] true (true, "6b58f63ec3fec0720650a6f8a8c15ecc5841d4075986db3d0682f07762abb997") true
    opText_said (fun _ h => by cases h) (by kernel_rfl) (fun _ h => by cases h) opText_row_tie rfl ⟨rfl, rfl⟩ (by kernel_rfl) rfl
    (fun f fn hf hfn => by
      obtain rfl : f = 4 := Option.some.inj ((show Tryd.prog.funcNamed "stithy/stithylaw12.OpText" = some 4 by kernel_rfl).symm.trans hf) |>.symm
      obtain rfl : fn = Tryd.f4 := (Option.some.inj (Tryd.func4.symm.trans hfn)).symm
      refine ⟨by kernel_rfl, fun j t ht => ?_⟩
      rw [Tryd.params4] at ht
      have h3 : t = 27 ∨ t = 4 := by
        rcases j with _ | _ | j
        · exact .inl (Option.some.inj ht).symm
        · exact .inr ((Option.some.inj ht).symm)
        · simp at ht
      rcases h3 with rfl | rfl
      · exact (show Tryd.prog.wantsStandIn 27 = false by kernel_rfl)
      · exact (show Tryd.prog.wantsStandIn 4 = false by kernel_rfl))
    (by kernel_rfl)
end Go.Proofs.YtfphlkkhpccpnabDoor
