/-
  PoolCopies returns true, whatever words it is given, and leaves them as they were.
-/
import Derived.Test.YtfphlkkhpccpnaaRows
import Derived.Test.YtfphlkkhpccpnaaCopies
import Derived.Test.YtfphlkkhpccpnaaArg
import Derived.WalkKit
import Derived.ProofKit
import Derived.OpenShut
import Derived.ShutString
import Derived.ChangeOld
import Derived.Below
namespace Go.Proofs.Ytfphlkkhpccpnaa
open Go.ChangeShapes Go.WideShapes Go.ChangeAt Go.RowKit K
set_option linter.unusedVariables false

theorem ownK : ownKnob Try.prog.godebug = none := by kernel_rfl
theorem laidOutK : laidOutB Try.prog = true := by kernel_rfl

theorem words_fit : ∀ {n : Nat} {ds : List D}, FitN ds n [.int .u64, .int .u64, .int .u64, .int .u64] → ∃ l : List Wd, l.length = n ∧ ds = (wordsC l).map D.v
  | _, _, .nil => ⟨[], rfl, rfl⟩
  | _, _, .cons (.cons (.int (n := a) _) (.cons (.int (n := b) _) (.cons (.int (n := c) _) (.cons (.int (n := d) _) .nil)))) t => by
    obtain ⟨l, rfl, rfl⟩ := words_fit t
    exact ⟨⟨a, b, c, d⟩ :: l, rfl, rfl⟩
theorem shapesWords : shapes Try.prog 4 22 = some [.sl 32 [.int .u64, .int .u64, .int .u64, .int .u64]] := by kernel_rfl

set_option maxRecDepth 100000 in
theorem liftedCopies (os : Os) (started : os.Started) (H : Type) (enc : TypeId × Value → H) :
    ReturnsInHanded {} Try.checked os 3 .any (Rows.poolCopiesSpec.pre6 enc Try.prog Try.f3 Rows.poolCopiesRow.domain false) (Rows.poolCopiesSpec.post enc Try.prog Try.f3 false true false false) := by
  refine handed_of_change (C := Try.checked) ownK started (by kernel_rfl) Try.func3
    (ChangeSpec.witness6 (enc := enc) (C := Try.checked) false ⟨#[], #[.slice none 0 0], []⟩ 8 (by kernel_rfl) (by kernel_rfl) (by kernel_rfl) (by kernel_rfl)) ?_
  intro W base args ds gs before hval0 hW hsz
  have hval : ∀ (j : Nat) t v, Try.f3.params[j]? = some t → args[j]? = some v → Value.okWide Try.prog W .any base t v := hval0
  have hW' := hW
  obtain ⟨p, q, hA0, hV, rfl, hfz, hnd⟩ := hW
  have hA : DataW.TrodAll enc Try.prog W 0 (fun _ => true) true Try.f3.params.toList args.toList ds p := hA0
  rw [Try.params3] at hA hval
  obtain ⟨v0, vs0, d0, ds0, p0, q0, hargs, rfl, rfl, h0, r0⟩ := trodAll_cons hA
  obtain ⟨rfl, rfl, rfl⟩ := trodAll_nil r0
  obtain rfl : args = #[v0] := by cases args; simp_all
  obtain ⟨rfl, rfl⟩ := trodVars_none hV
  obtain ⟨a0, len0, cap0, rfl⟩ := okWide_slice Try.underlying22 (hval 0 22 v0 rfl rfl)
  have k0 := h0
  have lt0 : ∀ x ∈ p0, x.block < W.heap.size := by obtain ⟨m, hm⟩ := k0; exact DataW.trod_lt m _ _ _ hm
  obtain ⟨l, hl, hr⟩ : ∃ l : List Wd, l.length * 32 ≤ reachBytes ∧ RepV (allOf W) (.slice a0 len0 cap0) (wordsD l) := by
    obtain ⟨m, hm⟩ := h0
    obtain ⟨ds, hr, hf⟩ := reads_shapes enc Try.prog W 0 true 4 22 _ shapesWords m _ _ hm (by
      have h := hsz
      rw [List.all_eq_true] at h ⊢
      exact fun x hx => h x (by show x ∈ DataW.weights _ _ _ ++ DataW.weightsEach _ _ _; exact List.mem_append_left _ hx))
    obtain ⟨d, r, hv, _⟩ : ∃ d r, RepV (allOf W) (.slice a0 len0 cap0) d ∧ ds = d :: r := by cases hr with | cons h t => exact ⟨_, _, h, rfl⟩
    subst_vars
    cases hf with
    | cons h t =>
      cases h with
      | sl hb hn =>
        obtain ⟨l, rfl, rfl⟩ := words_fit hn
        exact ⟨l, hb, hv⟩
  clear hA0 hval0
  refine (copies_any l _ W hr (by unfold reachBytes at hl; omega)).mono fun e W' ⟨he, bel⟩ => ?_
  subst he
  exact ⟨_, rfl, _, _, _, [], _, [], hW', trodAll_mk1 (shut_bool Try.underlying4 _), (trodAll_cons_mk (Below.trod laidOutK (by kernel_rfl) (of_decide_eq_true (by kernel_rfl)) k0 bel lt0) trodAll_mk0), rfl, bel.frame _, fun h => by cases h⟩

theorem overCopies : Rows.poolCopiesRow.holds Try.pinned (OpenSpec.ofChange Rows.poolCopiesSpec) :=
  OpenClaim.holds_of_wide 3 Try.f3 rfl rfl rfl rfl rfl rfl rfl ⟨rfl, rfl, rfl, rfl, rfl⟩ rfl rfl rfl rfl rfl (by kernel_rfl) Try.func3 (by kernel_rfl)
    (of_decide_eq_true (by kernel_rfl)) (by unfold Func.isWrapper; first | (rw [if_pos (by decide +kernel)]; kernel_rfl) | (rw [if_neg (by decide +kernel)]; exact ⟨rfl, rfl⟩))
    (fun os started H enc _ => liftedCopies os started H enc)

/-- The statement. -/
theorem poolCopies_holds : Rows.PoolCopiesSaid := overCopies
end Go.Proofs.Ytfphlkkhpccpnaa
