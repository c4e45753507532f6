/-
  ForkFull: the tied card.
-/
import Derived.Test.YtdnpobjokajigaaGreatDoorPart29
import Derived.Test.YtdnpobjokajigaaGreatDoorCards
import Derived.SevenTiedAt
namespace Go.Proofs.YtdnpobjokajigaaGreatDoor
open Go

/-- The statement. -/
theorem forkFull_holds : Rows.ForkFullCardSaid :=
  Claim7.holds_tied_plain_at .later [] [.data, .pinned] true (true, "948b148cfd9b284f37f0a4b678477ef2cbaa4410f867ccbf5e706ac36bd35c16") true
    forkFull_said (fun _ h => by cases h) (by kernel_rfl) (fun _ h => by cases h) forkFull_row_tie rfl ⟨rfl, rfl⟩ (by kernel_rfl) rfl
    (fun f fn hf hfn => by
      obtain rfl : f = 4 := Option.some.inj ((show Tryz.prog.funcNamed "stithy/stithylaw09.ForkFull" = some 4 by kernel_rfl).symm.trans hf) |>.symm
      obtain rfl : fn = Tryz.f4 := (Option.some.inj (Tryz.func4.symm.trans hfn)).symm
      refine ⟨by kernel_rfl, fun j t ht => ?_⟩
      rw [Tryz.params4] at ht
      have h3 : t = 49 ∨ t = 26 := by
        rcases j with _ | _ | _ | j
        · exact .inl (Option.some.inj ht).symm
        · exact .inr ((Option.some.inj ht).symm)
        · exact .inr ((Option.some.inj ht).symm)
        · simp at ht
      rcases h3 with rfl | rfl
      · exact (show Tryz.prog.wantsStandIn 49 = false by kernel_rfl)
      · exact (show Tryz.prog.wantsStandIn 26 = false by kernel_rfl))
    (by kernel_rfl)
end Go.Proofs.YtdnpobjokajigaaGreatDoor
