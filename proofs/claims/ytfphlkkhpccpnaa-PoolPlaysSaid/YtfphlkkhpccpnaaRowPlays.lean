/-
  PoolPlays returns true, whatever deeds it is given, and leaves them as they were.
-/
import Derived.Test.YtfphlkkhpccpnaaRows
import Derived.Test.YtfphlkkhpccpnaaPlaysW
import Derived.Test.YtfphlkkhpccpnaaArg
import Derived.WalkKit
import Derived.ProofKit
import Derived.OpenShut
import Derived.ShutString
import Derived.ChangeOld
import Derived.Below
namespace Go.Proofs.Ytfphlkkhpccpnaa
open Go.ChangeShapes Go.WideShapes Go.ChangeAt Go.RowKit K
set_option linter.unusedVariables false

theorem ownR : ownKnob Try.prog.godebug = none := by kernel_rfl
theorem laidOutR : laidOutB Try.prog = true := by kernel_rfl

theorem wf8 {a : Int} (h : (Lit.int .u8 a).wf = true) : 0 ≤ a ∧ a < 256 := by
  simp [Lit.wf, IntKind.min, IntKind.max, IntKind.signed, IntKind.bits] at h
  omega
set_option maxRecDepth 100000 in
theorem wf64 {a : Int} (h : (Lit.int .u64 a).wf = true) : W64 a := by
  simp [Lit.wf, IntKind.min, IntKind.max, IntKind.signed, IntKind.bits] at h
  unfold W64
  omega
theorem words_fit : ∀ {n : Nat} {ds : List D}, FitN ds n [.int .u64, .int .u64, .int .u64, .int .u64] → ∃ l : List Wd, l.length = n ∧ ds = (wordsC l).map D.v ∧ ∀ y ∈ l, Wd.ok y
  | _, _, .nil => ⟨[], rfl, rfl, by simp⟩
  | _, _, .cons (.cons (.int (n := a) ha) (.cons (.int (n := b) hb) (.cons (.int (n := c) hc) (.cons (.int (n := d) hd) .nil)))) t => by
    obtain ⟨l, rfl, rfl, hl⟩ := words_fit t
    refine ⟨⟨a, b, c, d⟩ :: l, rfl, by simp [wordsC, wdC], ?_⟩
    intro y hy
    rcases List.mem_cons.1 hy with rfl | hy
    · exact ⟨wf64 ha, wf64 hb, wf64 hc, wf64 hd⟩
    · exact hl y hy
theorem fit_sl {d : D} {bytes : Nat} {e : List Sh} (h : FitV d (.sl bytes e)) : ∃ n ds, d = .sl e.length n ds ∧ n * bytes ≤ reachBytes ∧ FitN ds n e := by
  cases h with
  | sl hb hn => exact ⟨_, _, rfl, hb, hn⟩
theorem acs_fit : ∀ {n : Nat} {ds : List D}, FitN ds n [.str, .sl 32 [.int .u64, .int .u64, .int .u64, .int .u64]] → ∃ l : List Ac, l.length = n ∧ ds = l.flatMap acD ∧ (∀ x ∈ l, ∀ y ∈ x.slots, Wd.ok y) ∧ ∀ x ∈ l, x.slots.length * 32 ≤ reachBytes
  | _, _, .nil => ⟨[], rfl, rfl, by simp, by simp⟩
  | _, _, .cons (.cons (.str (s := s) hs) (.cons hsl .nil)) t => by
    obtain ⟨nn, dd, rfl, hb, hn⟩ := fit_sl hsl
    obtain ⟨l, rfl, rfl, h1, h2⟩ := acs_fit t
    obtain ⟨q, rfl, rfl, h3⟩ := words_fit hn
    refine ⟨⟨s, q⟩ :: l, rfl, by simp [acD, wordsD], ?_, ?_⟩
    · intro x hx
      rcases List.mem_cons.1 hx with rfl | hx
      · exact h3
      · exact h1 x hx
    · intro x hx
      rcases List.mem_cons.1 hx with rfl | hx
      · exact hb
      · exact h2 x hx
theorem fl_int {ds : List D} {k : IntKind} {ss : List Sh} (h : FitL ds (.int k :: ss)) : ∃ n r, ds = .v (.int k n) :: r ∧ (Lit.int k n).wf = true ∧ FitL r ss := by
  cases h with
  | cons h1 t => cases h1 with
    | int hw => exact ⟨_, _, rfl, hw, t⟩
theorem fl_str {ds : List D} {ss : List Sh} (h : FitL ds (.str :: ss)) : ∃ s r, ds = .v (.string s) :: r ∧ FitL r ss := by
  cases h with
  | cons h1 t => cases h1 with
    | str hw => exact ⟨_, _, rfl, t⟩
theorem fl_bool {ds : List D} {ss : List Sh} (h : FitL ds (.bool :: ss)) : ∃ s r, ds = .v (.bool s) :: r ∧ FitL r ss := by
  cases h with
  | cons h1 t => cases h1 with
    | bool => exact ⟨_, _, rfl, t⟩
theorem fl_sl {ds : List D} {bytes : Nat} {e ss : List Sh} (h : FitL ds (.sl bytes e :: ss)) : ∃ n dd r, ds = .sl e.length n dd :: r ∧ n * bytes ≤ reachBytes ∧ FitN dd n e ∧ FitL r ss := by
  cases h with
  | cons h1 t =>
    obtain ⟨n, dd, rfl, hb, hn⟩ := fit_sl h1
    exact ⟨n, dd, _, rfl, hb, hn, t⟩
theorem fl_nil {ds : List D} (h : FitL ds []) : ds = [] := by cases h; rfl
theorem deed_fit {ds : List D} (g0 : FitL ds [.int .u8, .int .u8, .int .u8, .int .i64, .str, .str, .int .u64, .int .u64, .int .u64, .int .u64, .int .u64, .int .u64, .int .u64, .int .u64, .int .u64, .int .u64, .int .u64, .int .u64, .int .u64, .int .u64, .str, .sl 40 [.str, .sl 32 [.int .u64, .int .u64, .int .u64, .int .u64]], .bool]) : ∃ u : Dd, ds = plD u ∧ u.fits := by
  obtain ⟨kk, r0, rfl, w0, g1⟩ := fl_int g0
  obtain ⟨ka, r1, rfl, w1, g2⟩ := fl_int g1
  obtain ⟨kn, r2, rfl, w2, g3⟩ := fl_int g2
  obtain ⟨tk, r3, rfl, w3, g4⟩ := fl_int g3
  obtain ⟨sf, r4, rfl, g5⟩ := fl_str g4
  obtain ⟨st, r5, rfl, g6⟩ := fl_str g5
  obtain ⟨tn, r6, rfl, w6, g7⟩ := fl_int g6
  obtain ⟨tg, r7, rfl, w7, g8⟩ := fl_int g7
  obtain ⟨pa, r8, rfl, w8, g9⟩ := fl_int g8
  obtain ⟨pb, r9, rfl, w9, g10⟩ := fl_int g9
  obtain ⟨pc, r10, rfl, w10, g11⟩ := fl_int g10
  obtain ⟨pd, r11, rfl, w11, g12⟩ := fl_int g11
  obtain ⟨qa, r12, rfl, w12, g13⟩ := fl_int g12
  obtain ⟨qb, r13, rfl, w13, g14⟩ := fl_int g13
  obtain ⟨qc, r14, rfl, w14, g15⟩ := fl_int g14
  obtain ⟨qd, r15, rfl, w15, g16⟩ := fl_int g15
  obtain ⟨va, r16, rfl, w16, g17⟩ := fl_int g16
  obtain ⟨vb, r17, rfl, w17, g18⟩ := fl_int g17
  obtain ⟨vc, r18, rfl, w18, g19⟩ := fl_int g18
  obtain ⟨vd, r19, rfl, w19, g20⟩ := fl_int g19
  obtain ⟨sd, r20, rfl, g21⟩ := fl_str g20
  obtain ⟨nn, dd, r21, rfl, hb, h21, g22⟩ := fl_sl g21
  obtain ⟨br, r22, rfl, g23⟩ := fl_bool g22
  obtain rfl := fl_nil g23
  obtain ⟨acc, rfl, rfl, h1, h2⟩ := acs_fit h21
  refine ⟨⟨kk, ka, kn, ⟨tk, sf, st, tn, tg, ⟨pa, pb, pc, pd⟩, ⟨qa, qb, qc, qd⟩, ⟨va, vb, vc, vd⟩, sd, acc⟩, br⟩, rfl, ?_⟩
  refine ⟨wf8 w0, wf8 w1, wf8 w2, ⟨wf64 w6, wf64 w7, ⟨wf64 w8, wf64 w9, wf64 w10, wf64 w11⟩, ⟨wf64 w12, wf64 w13, wf64 w14, wf64 w15⟩, ⟨wf64 w16, wf64 w17, wf64 w18, wf64 w19⟩, h1⟩, ⟨?_, ?_⟩⟩
  · exact Nat.le_trans hb (by decide)
  · intro x hx
    exact Nat.le_trans (h2 x hx) (by decide)
theorem deeds_fit : ∀ {n : Nat} {ds : List D}, FitN ds n [.int .u8, .int .u8, .int .u8, .int .i64, .str, .str, .int .u64, .int .u64, .int .u64, .int .u64, .int .u64, .int .u64, .int .u64, .int .u64, .int .u64, .int .u64, .int .u64, .int .u64, .int .u64, .int .u64, .str, .sl 40 [.str, .sl 32 [.int .u64, .int .u64, .int .u64, .int .u64]], .bool] → ∃ l : List Dd, l.length = n ∧ ds = l.flatMap plD ∧ ∀ u ∈ l, u.fits
  | _, _, .nil => ⟨[], rfl, rfl, by simp⟩
  | _, _, .cons h t => by
    obtain ⟨l, rfl, rfl, hl⟩ := deeds_fit t
    obtain ⟨u, rfl, hu⟩ := deed_fit h
    refine ⟨u :: l, rfl, rfl, ?_⟩
    intro v hv
    rcases List.mem_cons.1 hv with rfl | hv
    · exact hu
    · exact hl v hv
theorem shapesDeeds : shapes Try.prog 8 46 = some [.sl 208 [.int .u8, .int .u8, .int .u8, .int .i64, .str, .str, .int .u64, .int .u64, .int .u64, .int .u64, .int .u64, .int .u64, .int .u64, .int .u64, .int .u64, .int .u64, .int .u64, .int .u64, .int .u64, .int .u64, .str, .sl 40 [.str, .sl 32 [.int .u64, .int .u64, .int .u64, .int .u64]], .bool]] := by kernel_rfl

set_option maxRecDepth 100000 in
theorem liftedPlays (os : Os) (started : os.Started) (H : Type) (enc : TypeId × Value → H) :
    ReturnsInHanded {} Try.checked os 5 .any (Rows.poolPlaysSpec.pre6 enc Try.prog Try.f5 Rows.poolPlaysRow.domain false) (Rows.poolPlaysSpec.post enc Try.prog Try.f5 false true false false) := by
  refine handed_of_change (C := Try.checked) ownR started (by kernel_rfl) Try.func5
    (ChangeSpec.witness6 (enc := enc) (C := Try.checked) false ⟨#[], #[.slice none 0 0], []⟩ 8 (by kernel_rfl) (by kernel_rfl) (by kernel_rfl) (by kernel_rfl)) ?_
  intro W base args ds gs before hval0 hW hsz
  have hval : ∀ (j : Nat) t v, Try.f5.params[j]? = some t → args[j]? = some v → Value.okWide Try.prog W .any base t v := hval0
  have hW' := hW
  obtain ⟨p, q, hA0, hV, rfl, hfz, hnd⟩ := hW
  have hA : DataW.TrodAll enc Try.prog W 0 (fun _ => true) true Try.f5.params.toList args.toList ds p := hA0
  rw [Try.params5] at hA hval
  obtain ⟨v0, vs0, d0, ds0, p0, q0, hargs, rfl, rfl, h0, r0⟩ := trodAll_cons hA
  obtain ⟨rfl, rfl, rfl⟩ := trodAll_nil r0
  obtain rfl : args = #[v0] := by cases args; simp_all
  obtain ⟨rfl, rfl⟩ := trodVars_none hV
  obtain ⟨a0, len0, cap0, rfl⟩ := okWide_slice Try.underlying46 (hval 0 46 v0 rfl rfl)
  have k0 := h0
  have lt0 : ∀ x ∈ p0, x.block < W.heap.size := by obtain ⟨m, hm⟩ := k0; exact DataW.trod_lt m _ _ _ hm
  obtain ⟨l, hl, hr⟩ : ∃ l : List Dd, (∀ u ∈ l, u.fits) ∧ RepV (allOf W) (.slice a0 len0 cap0) (deedsD l) := by
    obtain ⟨m, hm⟩ := h0
    obtain ⟨ds, hr, hf⟩ := reads_shapes enc Try.prog W 0 true 8 46 _ shapesDeeds m _ _ hm (by
      have h := hsz
      rw [List.all_eq_true] at h ⊢
      exact fun x hx => h x (by show x ∈ DataW.weights _ _ _ ++ DataW.weightsEach _ _ _; exact List.mem_append_left _ hx))
    obtain ⟨d, r, hv, _⟩ : ∃ d r, RepV (allOf W) (.slice a0 len0 cap0) d ∧ ds = d :: r := by cases hr with | cons h t => exact ⟨_, _, h, rfl⟩
    subst_vars
    cases hf with
    | cons h t =>
      cases h with
      | sl hb hn =>
        obtain ⟨l, rfl, rfl, hl⟩ := deeds_fit hn
        exact ⟨l, hl, hv⟩
  clear hA0 hval0
  refine (plays_any l hl _ W hr).mono fun e W' ⟨he, bel⟩ => ?_
  subst he
  exact ⟨_, rfl, _, _, _, [], _, [], hW', trodAll_mk1 (shut_bool Try.underlying4 _), (trodAll_cons_mk (Below.trod laidOutR (by kernel_rfl) (of_decide_eq_true (by kernel_rfl)) k0 bel lt0) trodAll_mk0), rfl, bel.frame _, fun h => by cases h⟩

theorem overPlays : Rows.poolPlaysRow.holds Try.pinned (OpenSpec.ofChange Rows.poolPlaysSpec) :=
  OpenClaim.holds_of_wide 5 Try.f5 rfl rfl rfl rfl rfl rfl rfl ⟨rfl, rfl, rfl, rfl, rfl⟩ rfl rfl rfl rfl rfl (by kernel_rfl) Try.func5 (by kernel_rfl)
    (of_decide_eq_true (by kernel_rfl)) (by unfold Func.isWrapper; first | (rw [if_pos (by decide +kernel)]; kernel_rfl) | (rw [if_neg (by decide +kernel)]; exact ⟨rfl, rfl⟩))
    (fun os started H enc _ => liftedPlays os started H enc)

/-- The statement. -/
theorem poolPlays_holds : Rows.PoolPlaysSaid := overPlays
end Go.Proofs.Ytfphlkkhpccpnaa
