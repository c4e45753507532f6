/-
  OpText returns true, whatever it is given.
-/
import Derived.Test.YtfphlkkhpccpnabDoorTextW
import Derived.Test.YtfphlkkhpccpnabDoorRowO
namespace Go.Proofs.YtfphlkkhpccpnabDoor
open Go.ChangeShapes Go.WideShapes Go.ChangeAt Go.RowKit K
open Go.ChangeMaps (open_string shut_string)
set_option linter.unusedVariables false

noncomputable def zerosText : Array Value := #[.slice none 0 0, .bool false]
theorem witnessText (os : Os) {H : Type} (enc : TypeId × Value → H) :
    (OpenSpec.ofChange Rows.opTextSpec).preRow enc Tryd.prog Tryd.f4 Rows.opTextRow.domain false Rows.opTextRow.laid ((laidWorld os).forCall (fun _ _ => 0) ⟨#[], zerosText, []⟩).memory zerosText := by
  have hw : (DataW.whole enc Tryd.prog ((laidWorld os).forCall (fun _ _ => 0) ⟨#[], zerosText, []⟩).memory Tryd.f4.params.toList (OpenSpec.ofChange Rows.opTextSpec).vars false zerosText.toList 8).map (fun x => (x.1, x.2.1)) =
      some ([.nil, .lit (.bool false)], []) := by kernel_rfl
  obtain ⟨⟨x1, x2, x3⟩, hx, hx1⟩ := Option.map_eq_some_iff.1 hw
  simp only [Prod.mk.injEq] at hx1
  obtain ⟨rfl, rfl⟩ := hx1
  exact OpenSpec.preRow_of_cond 8 hx (by kernel_rfl) (fun k hk => by cases hk) (by kernel_rfl) (laid_met os _)

set_option maxRecDepth 100000 in
set_option maxHeartbeats 2000000 in
theorem liftedText (os : Os) (started : os.Started) (H : Type) (enc : TypeId × Value → H) (F : Stop.Interp) :
    ReturnsInHanded {} Tryd.checked os 4 .any ((OpenSpec.ofChange Rows.opTextSpec).preRow enc Tryd.prog Tryd.f4 Rows.opTextRow.domain false Rows.opTextRow.laid) (((OpenSpec.ofChange Rows.opTextSpec).at F).post enc Tryd.prog Tryd.f4 false true false false) := by
  refine returnsInHanded_of_row (C := Tryd.checked) (s := OpenSpec.ofChange Rows.opTextSpec) ownR started (by kernel_rfl) Tryd.func4
    (witness_row_atRef (enc := enc) (C := Tryd.checked) false (laidWorld os) zerosText rfl (by kernel_rfl) (by kernel_rfl) (by kernel_rfl) (witnessText os enc)) ?_
  intro W base args ds gs before hval0 hW hcnd0 h1 h2 hL h3 hsz
  have hval : ∀ (j : Nat) t v, Tryd.f4.params[j]? = some t → args[j]? = some v → Value.okWide Tryd.prog W .any base t v := hval0
  have hW' := hW
  obtain ⟨p, q, hA0, hV, rfl, hfz, hnd⟩ := hW
  have hA : DataW.TrodAll enc Tryd.prog W 0 (fun _ => true) true Tryd.f4.params.toList args.toList ds p := hA0
  rw [Tryd.params4] at hA hval
  obtain ⟨v0, vs0, d0, ds0, p0, q0, hargs, rfl, rfl, g0, r0⟩ := trodAll_cons hA
  obtain ⟨v1, vs1, d1, ds1, p1, q1, rfl, rfl, rfl, g1, r1⟩ := trodAll_cons r0
  obtain ⟨rfl, rfl, rfl⟩ := trodAll_nil r1
  obtain rfl : args = #[v0, v1] := by cases args; simp_all
  have hV0 : DataW.TrodVars enc Tryd.prog W (fun _ => true) [] gs q := hV
  obtain ⟨rfl, rfl⟩ := trodVars_none hV0
  obtain ⟨a0, len0, cap0, rfl⟩ := okWide_slice Tryd.underlying27 (hval 0 27 v0 rfl rfl)
  have k0 := g0
  have lt0 : ∀ x ∈ p0, x.block < W.heap.size := by obtain ⟨m, hm⟩ := k0; exact DataW.trod_lt m _ _ _ hm
  obtain ⟨l, hl, hn2, hb, hr⟩ : ∃ l : List Nat, (∀ x ∈ l, x < 65536) ∧ l.length = len0 ∧ len0 * 2 ≤ reachBytes ∧ RepV (allOf W) (.slice a0 len0 cap0) (.sl 1 len0 ((l.map w16V).map D.v)) := by
    obtain ⟨m, hm⟩ := g0
    obtain ⟨ds, hr, hf⟩ := reads_shapes enc Tryd.prog W 0 true 4 27 _ shapesWords m _ _ hm (by
      have h := h2
      rw [List.all_eq_true] at h ⊢
      exact fun x hx => h x (List.mem_append_left _ hx))
    obtain ⟨d, r, hv, _⟩ : ∃ d r, RepV (allOf W) (.slice a0 len0 cap0) d ∧ ds = d :: r := by cases hr with | cons h t => exact ⟨_, _, h, rfl⟩
    subst_vars
    cases hf with
    | cons h t =>
      cases h with
      | sl hb hn =>
        obtain ⟨l, rfl, rfl, hl⟩ := words_fit hn
        obtain ⟨A', c', cs, hv', _⟩ := hv.sl_inv
        cases hv'
        exact ⟨l, hl, rfl, hb, hv⟩
  obtain ⟨wide, rfl, rfl, rfl⟩ := open_bool Tryd.underlying4 (hval 1 4 v1 rfl rfl) g1
  clear hA0 hval0
  refine (tx_wf wide a0 len0 cap0 l hl hn2 hb W h3 hr).mono fun z W' ⟨hz, bel⟩ => ?_
  subst hz
  exact ⟨_, rfl, _, _, _, [], _, [], hW', trodAll_mk1 (shut_bool Tryd.underlying4 _), (trodAll_cons_mk (Below.trod laidOutR (by kernel_rfl) (of_decide_eq_true (by kernel_rfl)) k0 bel lt0) (trodAll_cons_mk (shut_bool Tryd.underlying4 _) trodAll_mk0)), rfl, bel.frame _, fun h => by cases h⟩

theorem opText_said : Rows.OpTextSaid :=
  OpenClaim.holds_of_cond 4 Tryd.f4 rfl rfl rfl rfl rfl rfl rfl ⟨rfl, rfl, rfl, rfl, rfl⟩ rfl rfl rfl rfl rfl (by kernel_rfl) Tryd.func4 (by kernel_rfl)
    (of_decide_eq_true (by kernel_rfl)) (by unfold Func.isWrapper; first | (rw [if_pos (by decide +kernel)]; kernel_rfl) | (rw [if_neg (by decide +kernel)]; exact ⟨rfl, rfl⟩))
    (fun os started H enc _ F0 => by rw [OpenClaim.pre_eq_preRow]; exact liftedText os started H enc F0)
end Go.Proofs.YtfphlkkhpccpnabDoor
