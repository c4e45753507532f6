/-
  ForkOnce: the tied card.
-/
import Derived.Test.YtdnpobjokajigaaGreatDoorPart31
import Derived.Test.YtdnpobjokajigaaGreatDoorCards
import Derived.SevenTiedAt
namespace Go.Proofs.YtdnpobjokajigaaGreatDoor
open Go

/-- The statement. -/
theorem forkOnce_holds : Rows.ForkOnceCardSaid :=
  Claim7.holds_tied_plain_at .later [] [.data, .pinned] true (true, "948b148cfd9b284f37f0a4b678477ef2cbaa4410f867ccbf5e706ac36bd35c16") true
    forkOnce_said (fun _ h => by cases h) (by kernel_rfl) (fun _ h => by cases h) forkOnce_row_tie rfl ⟨rfl, rfl⟩ (by kernel_rfl) rfl
    (fun f fn hf hfn => by
      obtain rfl : f = 5 := Option.some.inj ((show Tryz.prog.funcNamed "stithy/stithylaw09.ForkOnce" = some 5 by kernel_rfl).symm.trans hf) |>.symm
      obtain rfl : fn = Tryz.f5 := (Option.some.inj (Tryz.func5.symm.trans hfn)).symm
      refine ⟨by kernel_rfl, fun j t ht => ?_⟩
      rw [Tryz.params5] at ht
      have h3 : t = 26 ∨ t = 24 ∨ t = 5 := by
        rcases j with _ | _ | _ | _ | j
        · exact .inl (Option.some.inj ht).symm
        · exact .inr (.inl (Option.some.inj ht).symm)
        · exact .inr (.inl (Option.some.inj ht).symm)
        · exact .inr (.inr ((Option.some.inj ht).symm))
        · simp at ht
      rcases h3 with rfl | rfl | rfl
      · exact (show Tryz.prog.wantsStandIn 26 = false by kernel_rfl)
      · exact (show Tryz.prog.wantsStandIn 24 = false by kernel_rfl)
      · exact (show Tryz.prog.wantsStandIn 5 = false by kernel_rfl))
    (by kernel_rfl)
end Go.Proofs.YtdnpobjokajigaaGreatDoor
