/-
  WireBack: the tied card.
-/
import Derived.Test.YtfphlkkhpccpnaaDoorRowBack
import Derived.Test.YtfphlkkhpccpnaaDoorCards
import Derived.SevenTiedAt
namespace Go.Proofs.YtfphlkkhpccpnaaDoor
open Go

/-- The statement. -/
theorem wireBack_holds : Rows.WireBackCardSaid :=
  Claim7.holds_tied_plain_at .later [] [.data, .pinned] true (true, "9576835acfd69eb7ba9a323a0b5aff1a9a917efae039870cf1ffac93d3d2b837") true
    wireBack_said (fun _ h => by cases h) (by kernel_rfl) (fun _ h => by cases h) wireBack_row_tie rfl ⟨rfl, rfl⟩ (by kernel_rfl) rfl
    (fun f fn hf hfn => by
      obtain rfl : f = 5 := Option.some.inj ((show Tryd.prog.funcNamed "stithy/stithylaw08.WireBack" = some 5 by kernel_rfl).symm.trans hf) |>.symm
      obtain rfl : fn = Tryd.f5 := (Option.some.inj (Tryd.func5.symm.trans hfn)).symm
      refine ⟨by kernel_rfl, fun j t ht => ?_⟩
      rw [Tryd.params5] at ht
      have h3 : t = 22 ∨ t = 24 ∨ t = 40 ∨ t = 52 := by
        rcases j with _ | _ | _ | _ | _ | j
        · exact .inl (Option.some.inj ht).symm
        · exact .inr (.inl (Option.some.inj ht).symm)
        · exact .inr (.inr (.inl (Option.some.inj ht).symm))
        · exact .inr (.inl (Option.some.inj ht).symm)
        · exact .inr (.inr (.inr ((Option.some.inj ht).symm)))
        · simp at ht
      rcases h3 with rfl | rfl | rfl | rfl
      · exact (show Tryd.prog.wantsStandIn 22 = false by kernel_rfl)
      · exact (show Tryd.prog.wantsStandIn 24 = false by kernel_rfl)
      · exact (show Tryd.prog.wantsStandIn 40 = false by kernel_rfl)
      · exact (show Tryd.prog.wantsStandIn 52 = false by kernel_rfl))
    (by kernel_rfl)
end Go.Proofs.YtfphlkkhpccpnaaDoor
