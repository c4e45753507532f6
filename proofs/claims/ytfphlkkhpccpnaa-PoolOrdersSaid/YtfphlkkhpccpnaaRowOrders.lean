/-
  PoolOrders returns true, whatever bytes it is given, and leaves them as they were.
-/
import Derived.Test.YtfphlkkhpccpnaaRows
import Derived.Test.YtfphlkkhpccpnaaOrders
import Derived.Test.YtfphlkkhpccpnaaArg
import Derived.WalkKit
import Derived.ProofKit
import Derived.OpenShut
import Derived.ShutString
import Derived.ChangeOld
import Derived.Below
namespace Go.Proofs.Ytfphlkkhpccpnaa
open Go.ChangeShapes Go.WideShapes Go.ChangeAt Go.RowKit K
set_option linter.unusedVariables false

theorem ownR : ownKnob Try.prog.godebug = none := by kernel_rfl
theorem laidOutR : laidOutB Try.prog = true := by kernel_rfl

theorem bytes_fit : ∀ {n : Nat} {ds : List D}, FitN ds n [.int .u8] → ∃ l : List Int, l.length = n ∧ ds = (bytesC l).map D.v ∧ ∀ b ∈ l, ByteOk b
  | _, _, .nil => ⟨[], rfl, rfl, by simp⟩
  | _, _, .cons (.cons (.int (n := a) h) .nil) t => by
    obtain ⟨l, rfl, rfl, hl⟩ := bytes_fit t
    refine ⟨a :: l, rfl, rfl, ?_⟩
    intro b hb
    rcases List.mem_cons.1 hb with rfl | hb
    · simpa [Lit.wf, IntKind.min, IntKind.max, IntKind.signed, IntKind.bits, ByteOk] using h
    · exact hl b hb
theorem shapesBytes : shapes Try.prog 4 39 = some [.sl 1 [.int .u8]] := by kernel_rfl

set_option maxRecDepth 100000 in
theorem liftedOrders (os : Os) (started : os.Started) (H : Type) (enc : TypeId × Value → H) :
    ReturnsInHanded {} Try.checked os 4 .any (Rows.poolOrdersSpec.pre6 enc Try.prog Try.f4 Rows.poolOrdersRow.domain false) (Rows.poolOrdersSpec.post enc Try.prog Try.f4 false true false false) := by
  refine handed_of_change (C := Try.checked) ownR started (by kernel_rfl) Try.func4
    (ChangeSpec.witness6 (enc := enc) (C := Try.checked) false ⟨#[], #[.slice none 0 0], []⟩ 8 (by kernel_rfl) (by kernel_rfl) (by kernel_rfl) (by kernel_rfl)) ?_
  intro W base args ds gs before hval0 hW hsz
  have hval : ∀ (j : Nat) t v, Try.f4.params[j]? = some t → args[j]? = some v → Value.okWide Try.prog W .any base t v := hval0
  have hW' := hW
  obtain ⟨p, q, hA0, hV, rfl, hfz, hnd⟩ := hW
  have hA : DataW.TrodAll enc Try.prog W 0 (fun _ => true) true Try.f4.params.toList args.toList ds p := hA0
  rw [Try.params4] at hA hval
  obtain ⟨v0, vs0, d0, ds0, p0, q0, hargs, rfl, rfl, h0, r0⟩ := trodAll_cons hA
  obtain ⟨rfl, rfl, rfl⟩ := trodAll_nil r0
  obtain rfl : args = #[v0] := by cases args; simp_all
  obtain ⟨rfl, rfl⟩ := trodVars_none hV
  obtain ⟨a0, len0, cap0, rfl⟩ := okWide_slice Try.underlying39 (hval 0 39 v0 rfl rfl)
  have k0 := h0
  have lt0 : ∀ x ∈ p0, x.block < W.heap.size := by obtain ⟨m, hm⟩ := k0; exact DataW.trod_lt m _ _ _ hm
  obtain ⟨l, hl, hr⟩ : ∃ l : List Int, (∀ b ∈ l, ByteOk b) ∧ RepV (allOf W) (.slice a0 len0 cap0) (bytesD l) := by
    obtain ⟨m, hm⟩ := h0
    obtain ⟨ds, hr, hf⟩ := reads_shapes enc Try.prog W 0 true 4 39 _ shapesBytes m _ _ hm (by
      have h := hsz
      rw [List.all_eq_true] at h ⊢
      exact fun x hx => h x (by show x ∈ DataW.weights _ _ _ ++ DataW.weightsEach _ _ _; exact List.mem_append_left _ hx))
    obtain ⟨d, r, hv, _⟩ : ∃ d r, RepV (allOf W) (.slice a0 len0 cap0) d ∧ ds = d :: r := by cases hr with | cons h t => exact ⟨_, _, h, rfl⟩
    subst_vars
    cases hf with
    | cons h t =>
      cases h with
      | sl hb hn =>
        obtain ⟨l, rfl, rfl, hl⟩ := bytes_fit hn
        exact ⟨l, hl, hv⟩
  clear hA0 hval0
  refine (orders_any l hl _ W hr).mono fun e W' ⟨he, bel⟩ => ?_
  subst he
  exact ⟨_, rfl, _, _, _, [], _, [], hW', trodAll_mk1 (shut_bool Try.underlying4 _), (trodAll_cons_mk (Below.trod laidOutR (by kernel_rfl) (of_decide_eq_true (by kernel_rfl)) k0 bel lt0) trodAll_mk0), rfl, bel.frame _, fun h => by cases h⟩

theorem overOrders : Rows.poolOrdersRow.holds Try.pinned (OpenSpec.ofChange Rows.poolOrdersSpec) :=
  OpenClaim.holds_of_wide 4 Try.f4 rfl rfl rfl rfl rfl rfl rfl ⟨rfl, rfl, rfl, rfl, rfl⟩ rfl rfl rfl rfl rfl (by kernel_rfl) Try.func4 (by kernel_rfl)
    (of_decide_eq_true (by kernel_rfl)) (by unfold Func.isWrapper; first | (rw [if_pos (by decide +kernel)]; kernel_rfl) | (rw [if_neg (by decide +kernel)]; exact ⟨rfl, rfl⟩))
    (fun os started H enc _ => liftedOrders os started H enc)

/-- The statement. -/
theorem poolOrders_holds : Rows.PoolOrdersSaid := overOrders
end Go.Proofs.Ytfphlkkhpccpnaa
