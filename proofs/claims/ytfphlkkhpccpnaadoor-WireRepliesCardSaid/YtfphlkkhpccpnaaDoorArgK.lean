/-
  Arguments of the door's rows: numbers' bounds; an account, an ask, a reply.
-/
import Derived.Test.YtfphlkkhpccpnaaDoorRowK
namespace Go.Proofs.YtfphlkkhpccpnaaDoor
open Go.ChangeShapes Go.WideShapes Go.ChangeAt Go.RowKit K
set_option linter.unusedVariables false
set_option maxRecDepth 100000

set_option maxRecDepth 100000 in
theorem wf32 {a : Int} (h : (Lit.int .u32 a).wf = true) : 0 ≤ a ∧ a < 4294967296 := by
  simp [Lit.wf, IntKind.min, IntKind.max, IntKind.signed, IntKind.bits] at h
  omega
theorem wfi64 {a : Int} (h : (Lit.int .i64 a).wf = true) : -9223372036854775808 ≤ a ∧ a < 9223372036854775808 := by
  simp [Lit.wf, IntKind.min, IntKind.max, IntKind.signed, IntKind.bits] at h
  omega
theorem wfu8 {a : Int} (h : (Lit.int .u8 a).wf = true) : 0 ≤ a ∧ a < 256 := by
  simp [Lit.wf, IntKind.min, IntKind.max, IntKind.signed, IntKind.bits] at h
  omega
/-- A struct among what a call is given: its cells are of its shape. -/
theorem agg_arg {H : Type} {enc : TypeId × Value → H} {W : World} {base : Nat} {r : Reach} {v : Value} {d : DataW H} {p : List MemPlace} {t : TypeId} {fs : Array Field} {sh : List Sh} (hu : Tryd.prog.underlying t = some (.struct fs)) (hsh : shapes Tryd.prog 5 t = some sh)
    (hv : Value.okWide Tryd.prog W r base t v) (h : DataW.Trod enc Tryd.prog W 0 (fun _ => true) true t v d p) (hsz : (d.weights Tryd.prog t).all (· ≤ reachBytes) = true) : ∃ cs ds, v = .agg cs ∧ RepL (allOf W) cs.toList ds ∧ FitL ds sh := by
  obtain ⟨cs, rfl, hs⟩ := okWide_struct hu hv
  obtain ⟨m, hm⟩ := h
  obtain ⟨ds, hr, hf⟩ := reads_shapes enc Tryd.prog W 0 true 5 t _ hsh m _ _ hm hsz
  exact ⟨cs, ds, rfl, hr, hf⟩
theorem fit_u64 {H : Hs} {cs : List Value} {ds : List D} {sh : List Sh} (hr : RepL H cs ds) (hf : FitL ds (.int .u64 :: sh)) : ∃ n cs' ds', cs = .int .u64 n :: cs' ∧ W64 n ∧ RepL H cs' ds' ∧ FitL ds' sh := by
  cases hf with
  | cons h1 t =>
    cases h1 with
    | int w1 =>
      obtain ⟨xs, rfl, ht⟩ := hr.pl_inv
      exact ⟨_, _, _, rfl, wf64 w1, ht, t⟩
theorem fit_i64 {H : Hs} {cs : List Value} {ds : List D} {sh : List Sh} (hr : RepL H cs ds) (hf : FitL ds (.int .i64 :: sh)) : ∃ n cs' ds', cs = .int .i64 n :: cs' ∧ (Lit.int .i64 n).wf = true ∧ RepL H cs' ds' ∧ FitL ds' sh := by
  cases hf with
  | cons h1 t =>
    cases h1 with
    | int w1 =>
      obtain ⟨xs, rfl, ht⟩ := hr.pl_inv
      exact ⟨_, _, _, rfl, w1, ht, t⟩
theorem fit_str {H : Hs} {cs : List Value} {ds : List D} {sh : List Sh} (hr : RepL H cs ds) (hf : FitL ds (.str :: sh)) : ∃ s cs' ds', cs = .string s :: cs' ∧ s.size ≤ reachBytes ∧ RepL H cs' ds' ∧ FitL ds' sh := by
  cases hf with
  | cons h1 t =>
    cases h1 with
    | str w1 =>
      obtain ⟨xs, rfl, ht⟩ := hr.pl_inv
      exact ⟨_, _, _, rfl, w1, ht, t⟩
theorem fit_end {H : Hs} {cs : List Value} {ds : List D} (hr : RepL H cs ds) (hf : FitL ds []) : cs = [] := by
  cases hf
  exact hr.nil_inv
theorem agg_list {cs : Array Value} {l : List Value} (h : cs.toList = l) : Value.agg cs = .agg l.toArray := by
  rw [← h]
theorem shAcc : shapes Tryd.prog 5 40 = some [.int .u64, .int .u64, .int .u64, .int .u64, .int .u64, .str] := by kernel_rfl
theorem shAsk : shapes Tryd.prog 5 26 = some [.int .u64, .str, .int .u64, .int .u64, .int .u64, .int .u64, .int .i64] := by kernel_rfl
theorem shReply : shapes Tryd.prog 5 42 = some [.int .u64, .int .u64, .int .u64, .int .u64, .int .u64, .int .u64, .str, .int .u64, .int .u64, .int .u64, .int .u64] := by kernel_rfl
section
variable {H : Type} {enc : TypeId × Value → H} {W : World} {base : Nat} {r : Reach} {v : Value} {d : DataW H} {p : List MemPlace}
theorem acc_arg (hv : Value.okWide Tryd.prog W r base 40 v) (h : DataW.Trod enc Tryd.prog W 0 (fun _ => true) true 40 v d p)
    (hsz : (d.weights Tryd.prog 40).all (· ≤ reachBytes) = true) : ∃ n a b c e s, v = .agg #[.int .u64 n, .int .u64 a, .int .u64 b, .int .u64 c, .int .u64 e, .string s] ∧ W64 n ∧ W64 a ∧ W64 b ∧ W64 c ∧ W64 e ∧ s.size ≤ reachBytes := by
  obtain ⟨cs, ds, rfl, hr, hf⟩ := agg_arg Tryd.underlying40 shAcc hv h hsz
  obtain ⟨n, c1, d1, e1, w1, hr, hf⟩ := fit_u64 hr hf
  obtain ⟨a, c2, d2, rfl, w2, hr, hf⟩ := fit_u64 hr hf
  obtain ⟨b, c3, d3, rfl, w3, hr, hf⟩ := fit_u64 hr hf
  obtain ⟨c, c4, d4, rfl, w4, hr, hf⟩ := fit_u64 hr hf
  obtain ⟨e, c5, d5, rfl, w5, hr, hf⟩ := fit_u64 hr hf
  obtain ⟨s, c6, d6, rfl, w6, hr, hf⟩ := fit_str hr hf
  obtain rfl := fit_end hr hf
  exact ⟨n, a, b, c, e, s, agg_list e1, w1, w2, w3, w4, w5, w6⟩
theorem ask_arg (hv : Value.okWide Tryd.prog W r base 26 v) (h : DataW.Trod enc Tryd.prog W 0 (fun _ => true) true 26 v d p)
    (hsz : (d.weights Tryd.prog 26).all (· ≤ reachBytes) = true) : ∃ id s a b c e k, v = .agg #[.int .u64 id, .string s, .int .u64 a, .int .u64 b, .int .u64 c, .int .u64 e, .int .i64 k] ∧ W64 id ∧ s.size ≤ reachBytes ∧ W64 a ∧ W64 b ∧ W64 c ∧ W64 e ∧ (Lit.int .i64 k).wf = true := by
  obtain ⟨cs, ds, rfl, hr, hf⟩ := agg_arg Tryd.underlying26 shAsk hv h hsz
  obtain ⟨n, c1, d1, e1, w1, hr, hf⟩ := fit_u64 hr hf
  obtain ⟨s, c6, d6, rfl, w6, hr, hf⟩ := fit_str hr hf
  obtain ⟨a, c2, d2, rfl, w2, hr, hf⟩ := fit_u64 hr hf
  obtain ⟨b, c3, d3, rfl, w3, hr, hf⟩ := fit_u64 hr hf
  obtain ⟨c, c4, d4, rfl, w4, hr, hf⟩ := fit_u64 hr hf
  obtain ⟨e, c5, d5, rfl, w5, hr, hf⟩ := fit_u64 hr hf
  obtain ⟨k, c7, d7, rfl, w7, hr, hf⟩ := fit_i64 hr hf
  obtain rfl := fit_end hr hf
  exact ⟨n, s, a, b, c, e, k, agg_list e1, w1, w6, w2, w3, w4, w5, w7⟩
theorem reply_arg (hv : Value.okWide Tryd.prog W r base 42 v) (h : DataW.Trod enc Tryd.prog W 0 (fun _ => true) true 42 v d p)
    (hsz : (d.weights Tryd.prog 42).all (· ≤ reachBytes) = true) : ∃ id n a b c e s f g i j, v = .agg #[.int .u64 id, .int .u64 n, .int .u64 a, .int .u64 b, .int .u64 c, .int .u64 e, .string s, .int .u64 f, .int .u64 g, .int .u64 i, .int .u64 j] ∧ W64 id ∧ W64 n ∧ W64 a ∧ W64 b ∧ W64 c ∧ W64 e ∧ s.size ≤ reachBytes ∧ W64 f ∧ W64 g ∧ W64 i ∧ W64 j := by
  obtain ⟨cs, ds, rfl, hr, hf⟩ := agg_arg Tryd.underlying42 shReply hv h hsz
  obtain ⟨id, c0, d0, e1, w0, hr, hf⟩ := fit_u64 hr hf
  obtain ⟨n, c1, d1, rfl, w1, hr, hf⟩ := fit_u64 hr hf
  obtain ⟨a, c2, d2, rfl, w2, hr, hf⟩ := fit_u64 hr hf
  obtain ⟨b, c3, d3, rfl, w3, hr, hf⟩ := fit_u64 hr hf
  obtain ⟨c, c4, d4, rfl, w4, hr, hf⟩ := fit_u64 hr hf
  obtain ⟨e, c5, d5, rfl, w5, hr, hf⟩ := fit_u64 hr hf
  obtain ⟨s, c6, d6, rfl, w6, hr, hf⟩ := fit_str hr hf
  obtain ⟨f, c7, d7, rfl, w7, hr, hf⟩ := fit_u64 hr hf
  obtain ⟨g, c8, d8, rfl, w8, hr, hf⟩ := fit_u64 hr hf
  obtain ⟨i, c9, d9, rfl, w9, hr, hf⟩ := fit_u64 hr hf
  obtain ⟨j, c10, d10, rfl, w10, hr, hf⟩ := fit_u64 hr hf
  obtain rfl := fit_end hr hf
  exact ⟨id, n, a, b, c, e, s, f, g, i, j, agg_list e1, w0, w1, w2, w3, w4, w5, w6, w7, w8, w9, w10⟩
end
end Go.Proofs.YtfphlkkhpccpnaaDoor
