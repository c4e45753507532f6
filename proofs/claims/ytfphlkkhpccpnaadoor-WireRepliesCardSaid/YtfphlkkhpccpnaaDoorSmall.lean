/-
  Small.
-/
import Derived.Test.YtfphlkkhpccpnaaDoorRead
import Derived.Lib.ConvBytes
import Derived.Laws.Closers25b
namespace Go.Proofs.YtfphlkkhpccpnaaDoor
open Go.RowKit Go.Proofs K

theorem below_bytes (w : World) (e : TypeId) (s : ByteArray) : Below w.heap.size w (Lib.bytesWorld w e s) :=
  Lib.below_freeze ((Below.drew (Below.refl _ w)).alloc (Nat.le_refl _) _) (p := ⟨w.heap.size, _, none⟩) (Nat.le_refl _) 1
theorem small_zero (s : ByteArray) (h : s.size ≤ 8) (hz : Lib.hasPrefix s.data.toList [0] = true) (A : Option Addr) (n c : Nat) (w : World) : Calls Tryd.prog 75 #[.agg #[.bool false, .string s, .slice A n c]] w (RetV (.tuple #[.int .u64 0, .bool false]) w) := by
  go_enter Tryd.func75, Tryd.ntmps75
  go_wp2_with fail
  refine (Tryd.strings_HasPrefix s ⟨#[0]⟩ _).mono ?_
  rintro e w1 ⟨rfl, rfl⟩
  go_wp2_with fail
  go_ret2
  exact ⟨rfl, (Below.refl _ _).alloc (Nat.le_refl _) _⟩
/-- The number that bytes are. -/
def sstep (n : Int) (b : UInt8) : Int := bits BinOp.or IntKind.u64 (IntKind.u64.wrap (n * 256)) (IntKind.u64.wrap (b.toNat : Int))
def smallV (l : List UInt8) : Int := l.foldl sstep 0
theorem smallV_bd (l : List UInt8) : 0 ≤ smallV l ∧ smallV l < 18446744073709551616 := by
  have h : ∀ (l : List UInt8) (x : Int), 0 ≤ x ∧ x < 18446744073709551616 → 0 ≤ l.foldl sstep x ∧ l.foldl sstep x < 18446744073709551616 := by
    intro l
    induction l with
    | nil => exact fun x h => h
    | cons b l ih =>
      intro x _
      refine ih _ ?_
      have h2 := bits_lo_u64 BinOp.or (IntKind.u64.wrap (x * 256)) (IntKind.u64.wrap (b.toNat : Int))
      have h3 := bits_hi_u64 BinOp.or (IntKind.u64.wrap (x * 256)) (IntKind.u64.wrap (b.toNat : Int))
      unfold sstep
      omega
  exact h l 0 ⟨by decide, by decide⟩
theorem smallV_snoc (s : ByteArray) {k : Nat} (h : k < s.size) : smallV (s.data.toList.take (k + 1)) = sstep (smallV (s.data.toList.take k)) s.data[k] := by
  unfold smallV
  rw [List.take_succ_eq_append_getElem (by simpa using h), List.foldl_append]
  rfl
set_option maxRecDepth 100000 in
theorem small_any (s : ByteArray) (h : s.size ≤ 8) (hz : Lib.hasPrefix s.data.toList [0] = false) (A : Option Addr) (n c : Nat) (w : World) : Calls Tryd.prog 75 #[.agg #[.bool false, .string s, .slice A n c]] w (RetV (.tuple #[.int .u64 (smallV s.data.toList), .bool true]) w) := by
  go_enter Tryd.func75, Tryd.ntmps75
  go_wp2_with fail
  refine (Tryd.strings_HasPrefix s ⟨#[0]⟩ _).mono ?_
  rintro e w1 ⟨rfl, rfl⟩
  have hconv := Lib.run_convert_string_bytes (P := Tryd.prog) (w.alloc (.cells #[.bool false, .string s, .slice A n c] 76)) 9 33 5 s Tryd.underlying9 Tryd.underlying33 Tryd.underlying5
  go_wp2_with fail
  go_loop [2, 5, 23] (fun n b i => ∃ k : Nat, i = .int .i64 k ∧ k ≤ s.size ∧ n = .int .u64 (smallV (s.data.toList.take k))) (fun _ _ i => 8 - (intOf i).toNat)
  case atStart => exact ⟨0, rfl, by omega, rfl⟩
  case round =>
    obtain ⟨k, rfl, hk, rfl⟩ := hrel
    by_cases hlt : k < s.size
    · have hc : (Lib.bytesWorld (w.alloc (.cells #[.bool false, .string s, .slice A n c] 76)) 5 s).cell? ⟨w.heap.size + 1, k, none⟩ = some (.int .u8 ((s.data.toList.getD k 0).toNat : Int)) := by
        have := Lib.bytesWorld_cell (w.alloc (.cells #[.bool false, .string s, .slice A n c] 76)) 5 s k hlt
        rwa [World.size_alloc] at this
      obtain ⟨hx0, hx1⟩ := smallV_bd (s.data.toList.take k)
      have HX := Lib.hid (smallV_snoc s hlt)
      go_wp2_with fail
      go_round
      case rel => exact ⟨k + 1, by go_num, by omega, by rw [HX.out]; rfl⟩
      case measure => simp [intOf]; omega
    · obtain rfl : k = s.size := by omega
      go_wp2_with fail
      go_ret2
      refine ⟨by rw [List.take_of_length_le (by simp)]; rfl, ?_⟩
      have h1 := below_bytes (w.alloc (.cells #[.bool false, .string s, .slice A n c] 76)) 5 s
      exact ((Below.refl _ _).alloc (Nat.le_refl _) _).trans (h1.mono (by simp))

/-- What Small tells of a text. -/
def smallOk (s : ByteArray) : Bool := decide (s.size ≤ 8) && !Lib.hasPrefix s.data.toList [0]
def smallR (s : ByteArray) : Int := if smallOk s then smallV s.data.toList else 0
theorem small_text (s : ByteArray) (A : Option Addr) (n c : Nat) (w : World) : Calls Tryd.prog 75 #[.agg #[.bool false, .string s, .slice A n c]] w (RetV (.tuple #[.int .u64 (smallR s), .bool (smallOk s)]) w) := by
  by_cases h : s.size ≤ 8
  · cases hz : Lib.hasPrefix s.data.toList [0] with
    | true =>
      have e : smallOk s = false := by simp [smallOk, hz]
      simp only [smallR, e]
      exact small_zero s h hz A n c w
    | false =>
      have e : smallOk s = true := by simp [smallOk, hz, h]
      simp only [smallR, e, if_true]
      exact small_any s h hz A n c w
  · have e : smallOk s = false := by simp [smallOk, h]
    simp only [smallR, e]
    exact small_long s (by omega) A n c w
section
variable {H0 H : Hs} {w0 w : World} {X : Nat → Prop} {ps : List Hp} {p : Nat} {s : ByteArray}
/-- How many bytes there are, behind a first one: none: it throws. -/
def manyL (f : Nat) (l : List UInt8) : Option (Nat × List UInt8) :=
  if f ≤ 55 then some (f, l)
  else if f - 55 ≤ l.length then
    let t : ByteArray := ⟨(l.take (f - 55)).toArray⟩
    if smallOk t = true ∧ 55 < smallR t ∧ smallR t ≤ 65536 then some ((smallR t).toNat, l.drop (f - 55)) else none
  else none
theorem many_short (S : St H0 w0 X H w ps) (f : Nat) (hf : f ≤ 55) :
    Calls Tryd.prog 109 #[.pointer (some ⟨p, 0, none⟩), .int .i64 f] w (RetS (.int .i64 f) H0 H w0 X ps) := by
  have HS := Lib.hid S
  clear S
  go_enter Tryd.func109, Tryd.ntmps109
  go_wp2_with fail
  go_ret
  exact ⟨rfl, HS.out⟩
set_option maxRecDepth 100000 in
theorem many_cut (S : St H0 w0 X H w ps) (i : Nat) (hi : ps[i]? = some (blk p (rdO s))) (f : Nat) (hf : ¬ f ≤ 55) (hf2 : f ≤ 64) (hs : s.size < f - 55) :
    Calls Tryd.prog 109 #[.pointer (some ⟨p, 0, none⟩), .int .i64 f] w (PanS H0 H w0 X (ps.eraseIdx i)) := by
  have HS := Lib.hid S
  have HZ := Lib.hid hs
  clear S hs
  have e : (f : Int) - 55 = ((f - 55 : Nat) : Int) := by omega
  go_enter Tryd.func109, Tryd.ntmps109
  go_wp2_with fail
  refine (take_no HS.out i hi (f - 55) HZ.out).mono ?_
  rintro e w1 ⟨rfl, S1⟩
  go_wp2_with fail
  exact bodyPost_pan rfl ⟨rfl, S1⟩
set_option maxRecDepth 100000 in
theorem many_big (S : St H0 w0 X H w ps) (i : Nat) (hi : ps[i]? = some (blk p (rdO s))) (f : Nat) (hf : ¬ f ≤ 55) (hf2 : f ≤ 64) (hs : f - 55 ≤ s.size) (h1 : smallOk (s.extract 0 (f - 55)) = true) (h2 : 55 < smallR (s.extract 0 (f - 55))) (h3 : smallR (s.extract 0 (f - 55)) ≤ 65536) :
    Calls Tryd.prog 109 #[.pointer (some ⟨p, 0, none⟩), .int .i64 f] w (RetS (.int .i64 (smallR (s.extract 0 (f - 55)))) H0 H w0 X (blk p (rdO (s.extract (f - 55) s.size)) :: ps.eraseIdx i)) := by
  have HS := Lib.hid S
  obtain ⟨t, ht⟩ : ∃ t, t = s.extract 0 (f - 55) := ⟨_, rfl⟩
  obtain ⟨r, hr⟩ : ∃ r, r = s.extract (f - 55) s.size := ⟨_, rfl⟩
  rw [← ht] at h1 h2 h3 ⊢
  rw [← hr]
  obtain ⟨q, hq⟩ : ∃ q, q = smallR t := ⟨_, rfl⟩
  rw [← hq] at h2 h3 ⊢
  have HQ := Lib.hid hq
  have HT := Lib.hid ht
  have HR := Lib.hid hr
  have H1 := Lib.hid h1
  have H23 := Lib.hid (And.intro h2 h3)
  clear S h1 h2 h3 ht hr hq
  have e : (f : Int) - 55 = ((f - 55 : Nat) : Int) := by omega
  go_enter Tryd.func109, Tryd.ntmps109
  go_wp2_with fail
  refine (take_yes HS.out i hi (f - 55) hs).mono ?_
  rintro e w1 ⟨rfl, S1⟩
  rw [← HT.out]
  rw [← HR.out] at S1
  have HS1 := Lib.hid S1
  clear S1 HS
  go_wp2_with fail
  refine (text_any _ _).mono ?_
  rintro e w2 ⟨rfl, hb2⟩
  have HS2 := Lib.hid (HS1.out.grow hb2)
  clear hb2 HS1
  go_wp2_with fail
  refine (small_text _ _ _ _ _).mono ?_
  rintro e w3 ⟨rfl, hb3⟩
  have HS3 := Lib.hid (HS2.out.grow hb3)
  clear hb3 HS2
  rw [H1.out, ← HQ.out]
  obtain ⟨h2, h3⟩ := H23.out
  clear H23 H1
  go_wp2_with fail
  refine (need_yes _).mono ?_
  rintro e w4 ⟨rfl, rfl⟩
  go_wp2_with fail
  go_ret
  exact ⟨rfl, HS3.out⟩
set_option maxRecDepth 100000 in
theorem many_bad (S : St H0 w0 X H w ps) (i : Nat) (hi : ps[i]? = some (blk p (rdO s))) (f : Nat) (hf : ¬ f ≤ 55) (hf2 : f ≤ 64) (hs : f - 55 ≤ s.size) (h1 : ¬ (smallOk (s.extract 0 (f - 55)) = true ∧ 55 < smallR (s.extract 0 (f - 55)) ∧ smallR (s.extract 0 (f - 55)) ≤ 65536)) :
    Calls Tryd.prog 109 #[.pointer (some ⟨p, 0, none⟩), .int .i64 f] w (PanS H0 H w0 X (ps.eraseIdx i)) := by
  have HS := Lib.hid S
  have H1 := Lib.hid h1
  clear S h1
  have e : (f : Int) - 55 = ((f - 55 : Nat) : Int) := by omega
  go_enter Tryd.func109, Tryd.ntmps109
  go_wp2_with fail
  refine (take_yes HS.out i hi (f - 55) hs).mono ?_
  rintro e w1 ⟨rfl, S1⟩
  have HS1 := Lib.hid S1
  clear S1 HS
  go_wp2_with fail
  refine (text_any _ _).mono ?_
  rintro e w2 ⟨rfl, hb2⟩
  have HS2 := Lib.hid (HS1.out.grow hb2)
  clear hb2 HS1
  go_wp2_with fail
  refine (small_text _ _ _ _ _).mono ?_
  rintro e w3 ⟨rfl, hb3⟩
  have HS3 := Lib.hid (HS2.out.grow hb3)
  clear hb3 HS2
  generalize smallR (s.extract 0 (f - 55)) = q at H1 ⊢
  generalize smallOk (s.extract 0 (f - 55)) = b at H1 ⊢
  have HP := Lib.hid (HS3.out.drop 0)
  cases b
  · go_wp2_with fail
    refine (need_no _).mono ?_
    rintro e w4 ⟨rfl, rfl⟩
    go_wp2_with fail
    exact bodyPost_pan rfl ⟨rfl, HP.out⟩
  · by_cases h2 : 55 < q
    · have h3 : ¬ q ≤ 65536 := fun h3 => H1.out ⟨rfl, h2, h3⟩
      have h4 : decide (q ≤ 65536) = false := by simp; omega
      clear H1
      go_wp2_with fail
      refine (need_no _).mono ?_
      rintro e w4 ⟨rfl, rfl⟩
      go_wp2_with fail
      exact bodyPost_pan rfl ⟨rfl, HP.out⟩
    · go_wp2_with fail
      refine (need_no _).mono ?_
      rintro e w4 ⟨rfl, rfl⟩
      go_wp2_with fail
      exact bodyPost_pan rfl ⟨rfl, HP.out⟩
end
end Go.Proofs.YtfphlkkhpccpnaaDoor
