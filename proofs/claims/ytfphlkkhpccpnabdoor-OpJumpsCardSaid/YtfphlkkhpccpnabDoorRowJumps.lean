/-
  OpJumps returns true, whatever it is given.
-/
import Derived.Test.YtfphlkkhpccpnabDoorOpJm
import Derived.Test.YtfphlkkhpccpnabDoorRowO
namespace Go.Proofs.YtfphlkkhpccpnabDoor
open Go.ChangeShapes Go.WideShapes Go.ChangeAt Go.RowKit K
open Go.ChangeMaps (open_string shut_string)
set_option linter.unusedVariables false

noncomputable def zerosJumps : Array Value := #[.int .u8 0, .string ⟨#[]⟩, .string ⟨#[]⟩]
theorem witnessJumps (os : Os) {H : Type} (enc : TypeId × Value → H) :
    (OpenSpec.ofChange Rows.opJumpsSpec).preRow enc Tryd.prog Tryd.f3 Rows.opJumpsRow.domain false Rows.opJumpsRow.laid ((laidWorld os).forCall (fun _ _ => 0) ⟨#[], zerosJumps, []⟩).memory zerosJumps := by
  have hw : (DataW.whole enc Tryd.prog ((laidWorld os).forCall (fun _ _ => 0) ⟨#[], zerosJumps, []⟩).memory Tryd.f3.params.toList (OpenSpec.ofChange Rows.opJumpsSpec).vars false zerosJumps.toList 8).map (fun x => (x.1, x.2.1)) =
      some ([.lit (.int .u8 0), .lit (.string []), .lit (.string [])], []) := by kernel_rfl
  obtain ⟨⟨x1, x2, x3⟩, hx, hx1⟩ := Option.map_eq_some_iff.1 hw
  simp only [Prod.mk.injEq] at hx1
  obtain ⟨rfl, rfl⟩ := hx1
  exact OpenSpec.preRow_of_cond 8 hx (by kernel_rfl) (fun k hk => by cases hk) (by kernel_rfl) (laid_met os _)

set_option maxRecDepth 100000 in
set_option maxHeartbeats 2000000 in
theorem liftedJumps (os : Os) (started : os.Started) (H : Type) (enc : TypeId × Value → H) (F : Stop.Interp) :
    ReturnsInHanded {} Tryd.checked os 3 .any ((OpenSpec.ofChange Rows.opJumpsSpec).preRow enc Tryd.prog Tryd.f3 Rows.opJumpsRow.domain false Rows.opJumpsRow.laid) (((OpenSpec.ofChange Rows.opJumpsSpec).at F).post enc Tryd.prog Tryd.f3 false true false false) := by
  refine returnsInHanded_of_row (C := Tryd.checked) (s := OpenSpec.ofChange Rows.opJumpsSpec) ownR started (by kernel_rfl) Tryd.func3
    (witness_row_atRef (enc := enc) (C := Tryd.checked) false (laidWorld os) zerosJumps rfl (by kernel_rfl) (by kernel_rfl) (by kernel_rfl) (witnessJumps os enc)) ?_
  intro W base args ds gs before hval0 hW hcnd0 h1 h2 hL h3 hsz
  have hval : ∀ (j : Nat) t v, Tryd.f3.params[j]? = some t → args[j]? = some v → Value.okWide Tryd.prog W .any base t v := hval0
  have hW' := hW
  obtain ⟨p, q, hA0, hV, rfl, hfz, hnd⟩ := hW
  have hA : DataW.TrodAll enc Tryd.prog W 0 (fun _ => true) true Tryd.f3.params.toList args.toList ds p := hA0
  rw [Tryd.params3] at hA hval
  obtain ⟨v0, vs0, d0, ds0, p0, q0, hargs, rfl, rfl, g0, r0⟩ := trodAll_cons hA
  obtain ⟨v1, vs1, d1, ds1, p1, q1, rfl, rfl, rfl, g1, r1⟩ := trodAll_cons r0
  obtain ⟨v2, vs2, d2, ds2, p2, q2, rfl, rfl, rfl, g2, r2⟩ := trodAll_cons r1
  obtain ⟨rfl, rfl, rfl⟩ := trodAll_nil r2
  obtain rfl : args = #[v0, v1, v2] := by cases args; simp_all
  have hV0 : DataW.TrodVars enc Tryd.prog W (fun _ => true) [] gs q := hV
  obtain ⟨rfl, rfl⟩ := trodVars_none hV0
  obtain ⟨a, rfl, rfl, rfl, w0⟩ := open_int Tryd.underlying5 (hval 0 5 v0 rfl rfl) g0
  have hsz1 : (d1.weights Tryd.prog 9).all (· ≤ reachBytes) = true := by
    rw [List.all_eq_true] at h2 ⊢
    exact fun x hx => h2 x (List.mem_append_right _ (List.mem_append_left _ hx))
  obtain ⟨s, rfl, rfl, rfl, w1⟩ := open_string Tryd.underlying9 (hval 1 9 v1 rfl rfl) g1
  have hb1 : s.size ≤ 140737488355328 := by
    have h9 : s.size ≤ reachBytes := by simpa [DataW.weights] using hsz1
    exact Nat.le_trans h9 (by decide)
  have hsz2 : (d2.weights Tryd.prog 9).all (· ≤ reachBytes) = true := by
    rw [List.all_eq_true] at h2 ⊢
    exact fun x hx => h2 x (List.mem_append_right _ (List.mem_append_right _ (List.mem_append_left _ hx)))
  obtain ⟨t, rfl, rfl, rfl, w2⟩ := open_string Tryd.underlying9 (hval 2 9 v2 rfl rfl) g2
  have hb2 : t.size ≤ 140737488355328 := by
    have h9 : t.size ≤ reachBytes := by simpa [DataW.weights] using hsz2
    exact Nat.le_trans h9 (by decide)
  clear hA0 hval0
  refine (jm_wf w0 s t hb1 hb2 W h3).mono fun z W' ⟨hz, bel⟩ => ?_
  subst hz
  exact ⟨_, rfl, _, _, _, [], _, [], hW', trodAll_mk1 (shut_bool Tryd.underlying4 _), (trodAll_cons_mk (shut_int Tryd.underlying5 w0) (trodAll_cons_mk (shut_string Tryd.underlying9 w1) (trodAll_cons_mk (shut_string Tryd.underlying9 w2) trodAll_mk0))), rfl, bel.frame _, fun h => by cases h⟩

theorem opJumps_said : Rows.OpJumpsSaid :=
  OpenClaim.holds_of_cond 3 Tryd.f3 rfl rfl rfl rfl rfl rfl rfl ⟨rfl, rfl, rfl, rfl, rfl⟩ rfl rfl rfl rfl rfl (by kernel_rfl) Tryd.func3 (by kernel_rfl)
    (of_decide_eq_true (by kernel_rfl)) (by unfold Func.isWrapper; first | (rw [if_pos (by decide +kernel)]; kernel_rfl) | (rw [if_neg (by decide +kernel)]; exact ⟨rfl, rfl⟩))
    (fun os started H enc _ F0 => by rw [OpenClaim.pre_eq_preRow]; exact liftedJumps os started H enc F0)
end Go.Proofs.YtfphlkkhpccpnabDoor
