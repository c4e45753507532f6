/-
  OpTexts: the tied card.
-/
import Derived.Test.YtfphlkkhpccpnaaDoorRowTexts
import Derived.Test.YtfphlkkhpccpnaaDoorCards
import Derived.SevenTiedAt
namespace Go.Proofs.YtfphlkkhpccpnaaDoor
open Go

/-- The statement. -/
theorem opTexts_holds : Rows.OpTextsCardSaid :=
  Claim7.holds_tied_plain_at .later [] [.data, .data, .data, .data, .sentinel, .sentinel, .pinned] true (true, "9576835acfd69eb7ba9a323a0b5aff1a9a917efae039870cf1ffac93d3d2b837") true
    opTexts_said (fun _ h => by cases h) (by kernel_rfl) (fun _ h => by cases h) opTexts_row_tie rfl ⟨rfl, rfl⟩ (by kernel_rfl) rfl
    (fun f fn hf hfn => by
      obtain rfl : f = 9 := Option.some.inj ((show Tryd.prog.funcNamed "stithy/stithylaw12.OpTexts" = some 9 by kernel_rfl).symm.trans hf) |>.symm
      obtain rfl : fn = Tryd.f9 := (Option.some.inj (Tryd.func9.symm.trans hfn)).symm
      refine ⟨by kernel_rfl, fun j t ht => ?_⟩
      rw [Tryd.params9] at ht
      have h3 : t = 9 := by
        rcases j with _ | j
        · exact (Option.some.inj ht).symm
        · simp at ht
      rcases h3 with rfl
      · exact (show Tryd.prog.wantsStandIn 9 = false by kernel_rfl))
    (by kernel_rfl)
end Go.Proofs.YtfphlkkhpccpnaaDoor
