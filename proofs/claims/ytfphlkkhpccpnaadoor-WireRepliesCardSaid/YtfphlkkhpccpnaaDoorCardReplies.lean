/-
  WireReplies: the tied card.
-/
import Derived.Test.YtfphlkkhpccpnaaDoorRowReplies
import Derived.Test.YtfphlkkhpccpnaaDoorCards
import Derived.SevenTiedAt
namespace Go.Proofs.YtfphlkkhpccpnaaDoor
open Go

/-- The statement. -/
theorem wireReplies_holds : Rows.WireRepliesCardSaid :=
  Claim7.holds_tied_plain_at .later [] [.data, .pinned] true (true, "9576835acfd69eb7ba9a323a0b5aff1a9a917efae039870cf1ffac93d3d2b837") true
    wireReplies_said (fun _ h => by cases h) (by kernel_rfl) (fun _ h => by cases h) wireReplies_row_tie rfl ⟨rfl, rfl⟩ (by kernel_rfl) rfl
    (fun f fn hf hfn => by
      obtain rfl : f = 4 := Option.some.inj ((show Tryd.prog.funcNamed "stithy/stithylaw08.WireReplies" = some 4 by kernel_rfl).symm.trans hf) |>.symm
      obtain rfl : fn = Tryd.f4 := (Option.some.inj (Tryd.func4.symm.trans hfn)).symm
      refine ⟨by kernel_rfl, fun j t ht => ?_⟩
      rw [Tryd.params4] at ht
      have h3 : t = 3 ∨ t = 42 ∨ t = 9 ∨ t = 4 ∨ t = 5 := by
        rcases j with _ | _ | _ | _ | _ | _ | _ | j
        · exact .inl (Option.some.inj ht).symm
        · exact .inl (Option.some.inj ht).symm
        · exact .inr (.inl (Option.some.inj ht).symm)
        · exact .inr (.inr (.inl (Option.some.inj ht).symm))
        · exact .inr (.inr (.inr (.inl (Option.some.inj ht).symm)))
        · exact .inl (Option.some.inj ht).symm
        · exact .inr (.inr (.inr (.inr ((Option.some.inj ht).symm))))
        · simp at ht
      rcases h3 with rfl | rfl | rfl | rfl | rfl
      · exact (show Tryd.prog.wantsStandIn 3 = false by kernel_rfl)
      · exact (show Tryd.prog.wantsStandIn 42 = false by kernel_rfl)
      · exact (show Tryd.prog.wantsStandIn 9 = false by kernel_rfl)
      · exact (show Tryd.prog.wantsStandIn 4 = false by kernel_rfl)
      · exact (show Tryd.prog.wantsStandIn 5 = false by kernel_rfl))
    (by kernel_rfl)
end Go.Proofs.YtfphlkkhpccpnaaDoor
