/-
  The document's own sum is the program's.
  The document's own numbers' bytes, and what stands ahead.
  The document's own encoding of a text.
  The document's own encoding of a list; all.
  The document's own reading of a small number.
  The document's own words: digits.
  The document's own words: of bytes.
  The document's own sizes.
  The document's own reading of items.
  The document's own reading of lists; Decode.
-/
import Derived.Test.YtfphlkkhpccpnaaDoorPlCrc
import Derived.Test.YtfphlkkhpccpnaaDoorPlRep
import Derived.Test.YtfphlkkhpccpnaaDoorMake
import Derived.Test.YtfphlkkhpccpnaaDoorRdL
import Derived.Laws.DeepStrings4
namespace Go.Proofs.YtfphlkkhpccpnaaDoor
open Go.RowKit Go.Proofs K
set_option linter.unusedVariables false
set_option maxRecDepth 100000

def stepN (x y : Nat) : Nat := if (x ^^^ y) % 2 = 1 then x / 2 ^^^ 3988292384 else x / 2
theorem xor32 {a b : Nat} (ha : a < 4294967296) (hb : b < 4294967296) : a ^^^ b < 4294967296 := Nat.xor_lt_two_pow (n := 32) ha hb
theorem stepN_bd {x : Nat} (hx : x < 4294967296) (y : Nat) : stepN x y < 4294967296 := by
  unfold stepN
  split
  · exact xor32 (by omega) (by decide)
  · omega
def RetE (v : Value) (w : World) (e : Ending) (w' : World) : Prop := e = .returned v ∧ w' = w
set_option maxRecDepth 100000 in
theorem step_any (x y : Nat) (hx : x < 4294967296) (hy : y < 4294967296) (w : World) : Calls Tryd.prog 96 #[.int .u32 x, .int .u32 y] w (RetE (.int .u32 (stepN x y)) w) := by
  have h1 := bx32 x y hx hy
  have h2 : bits .xor .u32 ((x : Int) / 2) 3988292384 = ((x / 2 ^^^ 3988292384 : Nat) : Int) := by
    have := bx32 (x / 2) 3988292384 (by omega) (by decide)
    rw [← this]
    rfl
  by_cases h : (x ^^^ y) % 2 = 1
  · have e1 : (((x ^^^ y : Nat) : Int) % 2 == 1) = true := by rw [beq_iff_eq]; omega
    have e2 : stepN x y = x / 2 ^^^ 3988292384 := by unfold stepN; rw [if_pos h]
    have HE := Lib.hid e2
    clear e2 h
    go_enter Tryd.func96, Tryd.ntmps96
    go_wp2_with fail
    go_ret
    exact ⟨by rw [HE.out]; rfl, rfl⟩
  · have e1 : (((x ^^^ y : Nat) : Int) % 2 == 1) = false := by rw [beq_eq_false_iff_ne]; omega
    have e2 : stepN x y = x / 2 := by unfold stepN; rw [if_neg h]
    have HE := Lib.hid e2
    clear e2 h
    go_enter Tryd.func96, Tryd.ntmps96
    go_wp2_with fail
    go_ret
    exact ⟨by rw [HE.out]; rfl, rfl⟩
/-- Eight steps are a byte's. -/
def stepsN : Nat → Nat → Nat → Nat
  | 0, x, _ => x
  | m + 1, x, b => stepN (stepsN m x b) (b / 2 ^ m)
theorem stepsN_bd {x : Nat} (hx : x < 4294967296) (b : Nat) : ∀ m, stepsN m x b < 4294967296
  | 0 => hx
  | m + 1 => stepN_bd (stepsN_bd hx b m) _
def cstN (x : Nat) : Nat := if x % 2 = 1 then x / 2 ^^^ 3988292384 else x / 2
def cstsN : Nat → Nat → Nat
  | 0, x => x
  | m + 1, x => cstN (cstsN m x)
theorem cstN_bd {x : Nat} (hx : x < 4294967296) : cstN x < 4294967296 := by
  unfold cstN
  split
  · exact xor32 (by omega) (by decide)
  · omega
theorem cstsN_bd {x : Nat} (hx : x < 4294967296) : ∀ m, cstsN m x < 4294967296
  | 0 => hx
  | m + 1 => cstN_bd (cstsN_bd hx m)
theorem bits_and1 (x : Nat) (hx : x < 4294967296) : bits .and .u32 (x : Int) 1 = ((x % 2 : Nat) : Int) := by
  have h1 : (BitVec.ofInt 32 (x : Int)).toNat = x := by
    rw [BitVec.ofInt_natCast, BitVec.toNat_ofNat]; exact Nat.mod_eq_of_lt (by omega)
  have h2 : (BitVec.ofInt 32 (1 : Int)).toNat = 1 := rfl
  show IntKind.u32.wrap ((BitVec.ofInt 32 (x : Int) &&& BitVec.ofInt 32 (1 : Int)).toNat : Int) = _
  rw [BitVec.toNat_and, h1, h2, Nat.and_one_is_mod]
  simp [IntKind.wrap, IntKind.bits, IntKind.signed]
  omega
theorem cstep_nat {x : Nat} (hx : x < 4294967296) : cstep (x : Int) = (cstN x : Int) := by
  unfold cstep cstN
  rw [bits_and1 x hx]
  split
  · rename_i h
    rw [h]
    have := bx32 (x / 2) 3988292384 (by omega) (by decide)
    rw [← this]
    rfl
  · rename_i h
    have h0 : x % 2 = 0 := by omega
    rw [h0]
    have := bx32 (x / 2) 0 (by omega) (by decide)
    rw [Nat.xor_zero] at this
    rw [← this]
    rfl
theorem csteps_nat {x : Nat} (hx : x < 4294967296) : ∀ m, csteps m (x : Int) = (cstsN m x : Int)
  | 0 => rfl
  | m + 1 => by
    show cstep (csteps m (x : Int)) = _
    rw [csteps_nat hx m]
    exact cstep_nat (cstsN_bd hx m)
theorem xor_div2 (a b : Nat) : (a ^^^ b) / 2 = a / 2 ^^^ b / 2 := by
  have h := Nat.shiftRight_xor_distrib (a := a) (b := b) (i := 1)
  simpa [Nat.shiftRight_eq_div_pow] using h
theorem xor_mod2 (a b : Nat) : (a ^^^ b) % 2 = (a % 2 + b % 2) % 2 := by
  have h := Nat.xor_mod_two_pow (a := a) (b := b) (n := 1)
  rw [Nat.pow_one] at h
  rw [h]
  rcases Nat.mod_two_eq_zero_or_one a with ha | ha <;> rcases Nat.mod_two_eq_zero_or_one b with hb | hb <;> rw [ha, hb] <;> rfl
theorem step_rel (x y : Nat) : stepN x y ^^^ y / 2 = cstN (x ^^^ y) := by
  unfold stepN cstN
  rw [xor_div2]
  split
  · rw [Nat.xor_assoc, Nat.xor_comm 3988292384, ← Nat.xor_assoc]
  · rfl
theorem steps_rel (x b : Nat) : ∀ m, stepsN m x b ^^^ b / 2 ^ m = cstsN m (x ^^^ b)
  | 0 => by simp [stepsN, cstsN]
  | m + 1 => by
    show stepN (stepsN m x b) (b / 2 ^ m) ^^^ b / 2 ^ (m + 1) = cstN (cstsN m (x ^^^ b))
    rw [← steps_rel x b m, Nat.pow_succ, ← Nat.div_div_eq_div_mul]
    exact step_rel _ _
theorem cstN_lin (u v : Nat) : cstN (u ^^^ v) = cstN u ^^^ cstN v := by
  unfold cstN
  have h := xor_mod2 u v
  rw [xor_div2]
  rcases Nat.mod_two_eq_zero_or_one u with hu | hu <;> rcases Nat.mod_two_eq_zero_or_one v with hv | hv
  · rw [if_neg (by omega), if_neg (by omega), if_neg (by omega)]
  · rw [if_pos (by omega), if_neg (by omega), if_pos (by omega), Nat.xor_assoc]
  · rw [if_pos (by omega), if_pos (by omega), if_neg (by omega), Nat.xor_assoc, Nat.xor_assoc, Nat.xor_comm (v / 2)]
  · rw [if_neg (by omega), if_pos (by omega), if_pos (by omega)]
    have : u / 2 ^^^ 3988292384 ^^^ (v / 2 ^^^ 3988292384) = u / 2 ^^^ v / 2 ^^^ (3988292384 ^^^ 3988292384) := by
      rw [Nat.xor_assoc, Nat.xor_comm (v / 2), ← Nat.xor_assoc 3988292384, Nat.xor_self, Nat.zero_xor, Nat.xor_zero]
    rw [this, Nat.xor_self, Nat.xor_zero]
theorem cstsN_lin (u v : Nat) : ∀ m, cstsN m (u ^^^ v) = cstsN m u ^^^ cstsN m v
  | 0 => rfl
  | m + 1 => by
    show cstN (cstsN m (u ^^^ v)) = _
    rw [cstsN_lin u v m]
    exact cstN_lin _ _
theorem cstsN_high (h : Nat) : ∀ (m k : Nat), cstsN m (h * 2 ^ (m + k)) = h * 2 ^ k
  | 0, k => by simp [cstsN]
  | m + 1, k => by
    show cstN (cstsN m (h * 2 ^ (m + 1 + k))) = _
    rw [show m + 1 + k = m + (k + 1) by omega, cstsN_high h m (k + 1)]
    unfold cstN
    rw [show h * 2 ^ (k + 1) = h * 2 ^ k * 2 by rw [Nat.pow_succ, Nat.mul_assoc]]
    rw [if_neg (by omega)]
    omega
theorem split8 (x : Nat) : x = (x / 256 * 256) ^^^ (x % 256) := by
  have h : x / 256 * 256 + x % 256 = x := by omega
  have := Nat.two_pow_add_eq_or_of_lt (b := x % 256) (i := 8) (by omega) (x / 256)
  have h2 : (x / 256 * 256) &&& (x % 256) = 0 := by
    apply Nat.eq_of_testBit_eq
    intro i
    rw [Nat.testBit_and, Nat.zero_testBit]
    by_cases hi : i < 8
    · rw [show x / 256 * 256 = 2 ^ 8 * (x / 256) by omega, Nat.testBit_two_pow_mul]
      simp [show ¬ 8 ≤ i by omega]
    · rw [Nat.testBit_lt_two_pow (x := x % 256) (i := i) (Nat.lt_of_lt_of_le (show x % 256 < 2 ^ 8 by omega) (Nat.pow_le_pow_right (by decide) (by omega))), Bool.and_false]
  have h3 : (x / 256 * 256) ^^^ (x % 256) = (x / 256 * 256) ||| (x % 256) := by
    apply Nat.eq_of_testBit_eq
    intro i
    have h4 := congrArg (fun n => n.testBit i) h2
    simp only [Nat.testBit_and, Nat.zero_testBit] at h4
    rw [Nat.testBit_xor, Nat.testBit_or]
    revert h4
    cases (x / 256 * 256).testBit i <;> cases (x % 256).testBit i <;> simp
  rw [h3, show x / 256 * 256 = 2 ^ 8 * (x / 256) by omega, ← this]
  omega
theorem steps_byte {x b : Nat} (hx : x < 4294967296) (hb : b < 256) : stepsN 8 x b = cbN x b := by
  have h1 := steps_rel x b 8
  rw [show b / 2 ^ 8 = 0 by omega, Nat.xor_zero] at h1
  rw [h1]
  have hxb : (x ^^^ b) / 256 = x / 256 := by
    have h := Nat.shiftRight_xor_distrib (a := x) (b := b) (i := 8)
    simp only [Nat.shiftRight_eq_div_pow] at h
    rw [show (256 : Nat) = 2 ^ 8 from rfl, h, show b / 2 ^ 8 = 0 by omega, Nat.xor_zero]
  have hxm : (x ^^^ b) % 256 = x % 256 ^^^ b := by
    have h := Nat.xor_mod_two_pow (a := x) (b := b) (n := 8)
    rw [show (256 : Nat) = 2 ^ 8 from rfl, h, Nat.mod_eq_of_lt (a := b) (by omega)]
  have hs := split8 (x ^^^ b)
  rw [hxb, hxm] at hs
  have hh := cstsN_high (x / 256) 8 0
  rw [show 8 + 0 = 8 from rfl, show (2 : Nat) ^ 8 = 256 from rfl, show (2 : Nat) ^ 0 = 1 from rfl, Nat.mul_one] at hh
  rw [hs, cstsN_lin, hh]
  unfold cbN tabN
  rw [csteps_nat (show x % 256 ^^^ b < 4294967296 from Nat.lt_of_lt_of_le (xor256 (by omega) hb) (by decide)), Int.toNat_natCast]
def moreN (t : Nat) (l : List UInt8) : Nat := cmN t l
theorem cmN_snoc (t : Nat) (s : ByteArray) {k : Nat} (h : k < s.size) : cmN t (s.data.toList.take (k + 1)) = cbN (cmN t (s.data.toList.take k)) (s[k].toNat) := by
  unfold cmN
  rw [List.take_succ_eq_append_getElem (by simpa using h), List.foldl_append]
  rfl
set_option maxRecDepth 100000 in
set_option maxHeartbeats 1000000 in
theorem rmore_any (s : ByteArray) (hs : s.size ≤ 140737488355328) (w : World) : Calls Tryd.prog 73 #[.int .u32 0, .string s] w (RetE (.int .u32 (crcI 0 s)) w) := by
  have HC := Lib.hid (crcI_nat s)
  have h0 : bits .xor .u32 IntKind.u32.max 0 = ((4294967295 : Nat) : Int) := (cnot_nat (x := 0) (by decide)).trans (by rfl)
  go_enter Tryd.func73, Tryd.ntmps73
  go_wp2_with fail
  go_loop [0, 5] (fun x i => ∃ k : Nat, i = .int .i64 k ∧ k ≤ s.size ∧ x = .int .u32 ((cmN 4294967295 (s.data.toList.take k) : Nat) : Int)) (fun _ i => s.size - (intOf i).toNat)
  case atStart => exact ⟨0, rfl, by omega, rfl⟩
  case round =>
    obtain ⟨k, rfl, hk, rfl⟩ := hrel
    by_cases hlt : k < s.size
    · have HX := Lib.hid (cmN_snoc 4294967295 s hlt)
      have hx0 : cmN 4294967295 (s.data.toList.take k) < 4294967296 := cmN_bd (by decide)
      generalize cmN 4294967295 (s.data.toList.take k) = x0 at *
      have hb0 : s[k].toNat < 256 := s[k].toNat_lt
      go_wp2_with fail
      go_loop [0, 6] (fun x j => ∃ m : Nat, j = .int .i64 m ∧ m ≤ 8 ∧ x = .int .u32 ((stepsN m x0 (s[k].toNat) : Nat) : Int)) (fun _ j => 8 - (intOf j).toNat)
      case atStart => exact ⟨0, rfl, by omega, rfl⟩
      case round =>
        obtain ⟨m, rfl, hm, rfl⟩ := hrel
        by_cases hlt2 : m < 8
        · have hd : s[k].toNat / 2 ^ m < 4294967296 := Nat.lt_of_le_of_lt (Nat.div_le_self _ _) (by omega)
          have HST := Lib.hid (step_any (stepsN m x0 (s[k].toNat)) (s[k].toNat / 2 ^ m) (stepsN_bd hx0 _ m) hd)
          have hdi : ((s[k].toNat : Int) / 2 ^ m % 4294967296) = ((s[k].toNat / 2 ^ m : Nat) : Int) := by
            have e : ((s[k].toNat / 2 ^ m : Nat) : Int) = (s[k].toNat : Int) / 2 ^ m := by rw [Int.natCast_ediv, Int.natCast_pow]; rfl
            rw [← e]
            exact Int.emod_eq_of_lt (Int.natCast_nonneg _) (Int.ofNat_lt.2 hd)
          have HD := Lib.hid hdi
          clear hdi
          go_wp2_with fail
          rw [HD.out]
          refine (HST.out _).mono ?_
          rintro z w1 ⟨rfl, rfl⟩
          go_wp2_with fail
          go_round
          case rel => exact ⟨m + 1, by go_num, by omega, rfl⟩
          case measure => simp [intOf]; omega
        · obtain rfl : m = 8 := by omega
          have HY := Lib.hid (steps_byte hx0 hb0)
          go_wp2_with fail
          go_round
          case rel => exact ⟨k + 1, by go_num, by omega, by rw [HX.out, ← HY.out]⟩
          case measure => simp [intOf]; omega
    · obtain rfl : k = s.size := by omega
      have hfull : s.data.toList.take s.size = s.data.toList := List.take_of_length_le (by simp)
      have hx0 : cmN 4294967295 s.data.toList < 4294967296 := cmN_bd (by decide)
      have hx := bx32 4294967295 (cmN 4294967295 s.data.toList) (by decide) hx0
      have hx' : bits .xor .u32 IntKind.u32.max ((cmN 4294967295 s.data.toList : Nat) : Int) = ((4294967295 ^^^ cmN 4294967295 s.data.toList : Nat) : Int) := hx
      rw [hfull]
      go_wp2_with fail
      go_ret
      exact ⟨by rw [HC.out]; rfl, rfl⟩
theorem rsum_any (s : ByteArray) (hs : s.size ≤ 140737488355328) (w : World) : Calls Tryd.prog 48 #[.string s] w (RetE (.int .u32 (crcI 0 s)) w) := by
  have HM := Lib.hid (rmore_any s hs)
  go_enter Tryd.func48, Tryd.ntmps48
  go_wp2_with fail
  refine (HM.out _).mono ?_
  rintro z w1 ⟨rfl, rfl⟩
  go_wp2_with fail
  go_ret
  exact ⟨rfl, rfl⟩
end Go.Proofs.YtfphlkkhpccpnaaDoor

namespace Go.Proofs.YtfphlkkhpccpnaaDoor
open Go.RowKit Go.Proofs K
set_option linter.unusedVariables false

def bytesN (n : Nat) : List UInt8 := if h : n = 0 then [] else bytesN (n / 256) ++ [UInt8.ofNat (n % 256)]
theorem bytesN_zero : bytesN 0 = [] := by unfold bytesN; rfl
theorem bytesN_pos {n : Nat} (h : 0 < n) : bytesN n = bytesN (n / 256) ++ [UInt8.ofNat (n % 256)] := by
  conv => lhs; unfold bytesN
  rw [dif_neg (by omega)]
theorem valN_snoc (l : List UInt8) (b : UInt8) : valN (l ++ [b]) = valN l * 256 + b.toNat := by unfold valN; rw [List.foldl_append]; rfl
def Clean (l : List UInt8) : Prop := ∀ b r, l = b :: r → b ≠ 0
theorem valN_pos : ∀ {l : List UInt8}, Clean l → l ≠ [] → 0 < valN l := by
  intro l
  induction hn : l.length using Nat.strongRecOn generalizing l with
  | ind n ih =>
    intro hc hl
    rcases List.eq_nil_or_concat l with h | ⟨l', b, h⟩
    · exact absurd h hl
    · rw [List.concat_eq_append] at h
      subst h
      rw [valN_snoc]
      by_cases h' : l' = []
      · subst h'
        have hb := hc b [] rfl
        have : b.toNat ≠ 0 := fun h0 => hb (UInt8.toNat_inj.1 (by simpa using h0))
        omega
      · have := ih l'.length (by rw [← hn]; simp) rfl (fun c r e => hc c (r ++ [b]) (by rw [e]; rfl)) h'
        omega
theorem bytesN_val : ∀ (n : Nat) (l : List UInt8), l.length ≤ n → Clean l → bytesN (valN l) = l := by
  intro n
  induction n with
  | zero =>
    intro l hl _
    obtain rfl := List.eq_nil_of_length_eq_zero (l := l) (by omega)
    exact bytesN_zero
  | succ n ih =>
    intro l hl hc
    rcases List.eq_nil_or_concat l with h | ⟨l', b, h⟩
    · subst h; exact bytesN_zero
    · rw [List.concat_eq_append] at h
      subst h
      have hb := b.toNat_lt
      have hc' : Clean l' := fun c r e => hc c (r ++ [b]) (by rw [e]; rfl)
      have hp := valN_pos hc (by simp)
      rw [valN_snoc] at hp ⊢
      rw [bytesN_pos hp, show (valN l' * 256 + b.toNat) / 256 = valN l' by omega, show (valN l' * 256 + b.toNat) % 256 = b.toNat by omega, ih l' (by rw [List.length_append, List.length_singleton] at hl; omega) hc']
      congr 2
      exact UInt8.toNat_inj.1 (by simp)
theorem clean_of {l : List UInt8} (h : Lib.hasPrefix l [0] = false) : Clean l := fun b r e hb => by
  subst e hb
  have : Lib.hasPrefix (0 :: r) [0] = true := by cases r <;> rfl
  rw [this] at h
  cases h
theorem bytesN_num {n : Nat} (h : n < 18446744073709551616) : bytesN n = numL (n : Int) := by
  have := bytesN_val _ (numL (n : Int)) (Nat.le_refl _) (clean_of dropWhile_head)
  rw [valN_num h] at this
  exact this
set_option maxRecDepth 100000 in
theorem rbytes_any (n : Nat) (hn : n < 18446744073709551616) (w : World) : Calls Tryd.prog 65 #[.int .u64 n] w (RetV (.string (numS n)) w) := by
  have HB := Lib.hid (bytesN_num hn)
  have hlen : (bytesN n).length ≤ 8 := by rw [HB.out]; exact numL_len _
  go_enter Tryd.func65, Tryd.ntmps65
  go_wp2_with fail
  go_loopw [0, 3] (fun x s wr => ∃ (m : Nat) (l : List UInt8), x = .int .u64 m ∧ m ≤ n ∧ s = .string (bs l) ∧ Hid (bytesN n = bytesN m ++ l) ∧ Hid (Below w.heap.size w wr)) (fun x _ _ => (intOf x).toNat)
  case atStart => exact ⟨n, [], rfl, Nat.le_refl _, rfl, Lib.hid (by simp), Lib.hid (Below.refl _ _)⟩
  case round =>
    obtain ⟨m, l, rfl, hm, rfl, HL, HW⟩ := hrel
    by_cases h0 : 0 < m
    · have hl8 : l.length ≤ 8 := by
        have := congrArg List.length HL.out
        rw [List.length_append] at this
        omega
      have hconv := run_convert_bytes_arg (wr.alloc (.cells #[.int .u8 ((m : Int) % 256)] 5)) 33 5 Tryd.underlying33 Tryd.underlying5 wr.heap.size 0 1 1 [(m : Int) % 256] rfl (fun i hi => by
        rw [cell_of_row _ _ _ _ _ _ (heap_alloc_new wr _)]
        rcases (by omega : i = 0) with e; rw [e]; rfl) 9 Tryd.underlying9
      have hcat : (strOfNums [(m : Int) % 256]).size + (bs l).size ≤ 9223372036854775807 := by rw [bs_size, show (strOfNums [(m : Int) % 256]).size = 1 from rfl]; omega
      have hcatF : (9223372036854775807 < (strOfNums [(m : Int) % 256]).size + (bs l).size) = False := eq_false (by omega)
      go_wp2_with fail
      go_roundw
      case rel =>
        refine ⟨m / 256, UInt8.ofNat (m % 256) :: l, by go_num, by omega, ?_, Lib.hid ?_, Lib.hid (HW.out.alloc HW.out.size _)⟩
        · have e : ((m : Int) % 256).toNat = m % 256 := by omega
          exact congrArg Value.string (bytes_ext (by rw [data_append, strOfNums_data]; simp only [List.map_cons, List.map_nil, e]; rfl))
        · rw [HL.out, bytesN_pos h0, List.append_assoc]; rfl
      case measure => simp [intOf]; omega
    · obtain rfl : m = 0 := by omega
      have hfin : l = numL n := by
        have := HL.out
        rw [bytesN_zero, List.nil_append, HB.out] at this
        exact this.symm
      have HF := Lib.hid hfin
      clear hfin
      go_wp2_with fail
      go_ret
      exact ⟨by rw [HF.out]; rfl, HW.out⟩
set_option maxRecDepth 100000 in
theorem rhead_any (base n : Nat) (hb : base ≤ 192) (hn : n ≤ 140737488355328) (w : World) : Calls Tryd.prog 67 #[.int .i64 base, .int .i64 n] w (RetV (.string (aheadS base n)) w) := by
  by_cases h : n ≤ 55
  · have hconv := run_convert_bytes_arg (w.alloc (.cells #[.int .u8 ((base : Int) + n)] 5)) 33 5 Tryd.underlying33 Tryd.underlying5 w.heap.size 0 1 1 [(base : Int) + n] rfl (fun i hi => by
      rw [cell_of_row _ _ _ _ _ _ (heap_alloc_new w _)]
      obtain rfl : i = 0 := by omega
      rfl) 9 Tryd.underlying9
    go_enter Tryd.func67, Tryd.ntmps67
    go_wp2
    go_ret
    refine ⟨?_, (Below.refl _ _).alloc (Nat.le_refl _) _⟩
    rw [aheadS, aheadL, if_pos h]
    rfl
  · go_enter Tryd.func67, Tryd.ntmps67
    go_wp2_with fail
    refine (rbytes_any n (by omega) _).mono ?_
    rintro e w1 ⟨rfl, hb1⟩
    have hl := numL_len (n : Int)
    have hsz : (numS (n : Int)).size = (numL (n : Int)).length := by simp [numS, ByteArray.size]
    have hs8 : (numS (n : Int)).size ≤ 8 := by omega
    have hconv := run_convert_bytes_arg (w1.alloc (.cells #[.int .u8 ((base : Int) + 55 + (numS (n : Int)).size)] 5)) 33 5 Tryd.underlying33 Tryd.underlying5 w1.heap.size 0 1 1 [(base : Int) + 55 + (numS (n : Int)).size] rfl (fun i hi => by
      rw [cell_of_row _ _ _ _ _ _ (heap_alloc_new w1 _)]
      obtain rfl : i = 0 := by omega
      rfl) 9 Tryd.underlying9
    have hcat : (strOfNums [(base : Int) + 55 + (numS (n : Int)).size]).size + (numS (n : Int)).size ≤ 9223372036854775807 := by rw [strOfNums_size]; simp; omega
    have hcatF : (9223372036854775807 < (strOfNums [(base : Int) + 55 + (numS (n : Int)).size]).size + (numS (n : Int)).size) = False := eq_false (by omega)
    have HZ := Lib.hid hsz
    clear hsz
    go_wp2_with fail
    go_ret
    refine ⟨?_, hb1.alloc hb1.size _⟩
    rw [HZ.out, cat_one, aheadS, aheadL, if_neg h]
    congr 6
theorem rhead128 (n : Nat) (hn : n ≤ 140737488355328) (w : World) : Calls Tryd.prog 67 #[.int .i64 128, .int .i64 n] w (RetV (.string (aheadS 128 n)) w) := rhead_any 128 n (by decide) hn w
theorem rhead192 (n : Nat) (hn : n ≤ 140737488355328) (w : World) : Calls Tryd.prog 67 #[.int .i64 192, .int .i64 n] w (RetV (.string (aheadS 192 n)) w) := rhead_any 192 n (by decide) hn w
end Go.Proofs.YtfphlkkhpccpnaaDoor

namespace Go.Proofs.YtfphlkkhpccpnaaDoor
open Go.RowKit Go.Proofs K
set_option linter.unusedVariables false

/-- Encoding an item gives its bytes. -/
def REncOk (i : It) : Prop := ∀ (H : Hs) (w : World) (x y z : Value), Ag H w → RepL H [x, y, z] i.d → i.enc.length ≤ 1099511627776 → Calls Tryd.prog 41 #[.agg #[x, y, z]] w (RetV (.string i.bytes) w)
theorem bytes_text (s : ByteArray) : (It.text s).bytes = ⟨(textL s).toArray⟩ := by simp [It.bytes, It.enc]
set_option maxRecDepth 100000 in
set_option maxHeartbeats 1000000 in
theorem renc_text (s : ByteArray) : REncOk (.text s) := by
  intro H w x y z hw hr hl
  obtain ⟨A, c, rfl, rfl, rfl⟩ := text_cells hr
  have hs := textL_ge s
  rw [It.enc] at hl
  have HT := Lib.hid (bytes_text s)
  have HC : Hid (∀ w1, Below (w.alloc (.cells #[.bool false, .string s, .slice A 0 c] 84)).heap.size (w.alloc (.cells #[.bool false, .string s, .slice A 0 c] 84)) w1 → w1.cell? ⟨w.heap.size, 1, none⟩ = some (.string s)) := Lib.hid fun w1 hb => by
    rw [hb.cell (p := ⟨w.heap.size, 1, none⟩) (by simp), cell_of_row _ _ _ _ _ _ (heap_alloc_new w _)]
    rfl
  have hcat : (aheadS 128 s.size).size + s.size ≤ 9223372036854775807 := by
    have := aheadL_len 128 s.size
    rw [aheadS_size]
    omega
  have hcatF : (9223372036854775807 < (aheadS 128 s.size).size + s.size) = False := eq_false (by omega)
  have HHD := Lib.hid (rhead128 s.size (by omega))
  by_cases h1 : s.size = 1
  · have h0 : 0 < s.size := by omega
    by_cases h2 : s[0].toNat < 128
    · have HL := Lib.hid (textL_one h1 h2)
      have e1 : ((s.size : Int) == 1) = true := by rw [beq_iff_eq]; omega
      have h2' : ((s[0].toNat : Nat) : Int) < 128 := by omega
      clear h1 h2
      go_enter Tryd.func41, Tryd.ntmps41
      go_wp2_with fail
      go_ret
      exact ⟨by rw [HT.out, HL.out]; rfl, (Below.refl _ _).alloc (Nat.le_refl _) _⟩
    · have HL : Hid (textL s = aheadL 128 s.size ++ s.data.toList) := Lib.hid (by have := textL_big h1 h2; rw [h1]; exact this)
      have HFIN : Hid (aheadS 128 s.size ++ s = ⟨(textL s).toArray⟩) := Lib.hid (bytes_ext (by rw [data_append, HL.out]; rfl))
      have e1 : ((s.size : Int) == 1) = true := by rw [beq_iff_eq]; omega
      have h2' : ¬ ((s[0].toNat : Nat) : Int) < 128 := by omega
      clear h1 h2
      go_enter Tryd.func41, Tryd.ntmps41
      go_wp2_with fail
      go_region_law (first
        | (go_simp; go_at_call 67; refine (retFrom (W := w.alloc (.cells #[.bool false, .string s, .slice A 0 c] 84)) ?_ (HHD.out _)).mono ?_; (first | assumption | exact (Below.refl _ _).drew); rintro e w1 ⟨rfl, hb1⟩; have k1 := HC.out w1 hb1))
      all_goals
        go_wp2_with fail
        go_ret
        refine ⟨?_, ?_⟩
        · rw [HT.out, ← HFIN.out]; rfl
        · exact ((Below.refl _ _).alloc (Nat.le_refl _) _).trans (hb1.mono (by simp))
  · have HL := Lib.hid (textL_other h1)
    have HFIN : Hid (aheadS 128 s.size ++ s = ⟨(textL s).toArray⟩) := Lib.hid (bytes_ext (by rw [data_append, HL.out]; rfl))
    have e1 : ((s.size : Int) == 1) = false := by rw [beq_eq_false_iff_ne]; omega
    clear h1
    go_enter Tryd.func41, Tryd.ntmps41
    go_wp2_with fail
    go_region_law (first
      | (go_simp; go_at_call 67; refine (retFrom (W := w.alloc (.cells #[.bool false, .string s, .slice A 0 c] 84)) ?_ (HHD.out _)).mono ?_; (first | assumption | exact (Below.refl _ _).drew); rintro e w1 ⟨rfl, hb1⟩; have k1 := HC.out w1 hb1))
    all_goals
      go_wp2_with fail
      go_ret
      refine ⟨?_, ?_⟩
      · rw [HT.out, ← HFIN.out]; rfl
      · exact ((Below.refl _ _).alloc (Nat.le_refl _) _).trans (hb1.mono (by simp))
end Go.Proofs.YtfphlkkhpccpnaaDoor

namespace Go.Proofs.YtfphlkkhpccpnaaDoor
open Go.RowKit Go.Proofs K
set_option linter.unusedVariables false

set_option maxRecDepth 100000 in
set_option maxHeartbeats 4000000 in
theorem renc_list (l : List It) (hall : ∀ i ∈ l, REncOk i) (hl : l.length ≤ 1099511627776) : REncOk (.list l) := by
  intro H w x y z hw hr hn
  obtain ⟨A, c, rfl, rfl, rfl, hz⟩ := list_cells hr
  obtain ⟨A', c', cs, he, hnc, hA, hlen, hR, hD⟩ := hz.sl_inv
  obtain ⟨rfl, rfl⟩ : A = A' ∧ c = c' := by simpa using he
  have hn2 : (aheadL 192 (encL l).length).length + (encL l).length ≤ 1099511627776 := by
    unfold It.enc at hn
    rw [List.length_append] at hn
    omega
  have HS := Lib.hid ((St.start hw).alloc (.cells #[.bool true, .string ⟨#[]⟩, .slice A l.length c] 84))
  have HR := Lib.hid hR
  have HD := Lib.hid hD
  have HALL := Lib.hid hall
  clear hr hz he hn hR hD hall hlen hA hw
  go_enter Tryd.func41, Tryd.ntmps41
  go_wp2_with fail
  go_loopw [3, 4] (fun s i wr => ∃ k : Nat, i = .int .i64 k ∧ k ≤ l.length ∧ s = .string (bs (encL (l.take k))) ∧ Hid (St H w none_ H wr [blk w.heap.size (.cells #[.bool true, .string ⟨#[]⟩, .slice A l.length c] 84)])) (fun _ i _ => l.length - (intOf i).toNat)
  case atStart => exact ⟨0, rfl, by omega, rfl, HS⟩
  case round =>
    clear HS
    obtain ⟨k, rfl, hk, rfl, HS⟩ := hrel
    have c2 : wr.cell? ⟨w.heap.size, 2, none⟩ = some (.slice A l.length c) := HS.out.cell 0 rfl rfl
    by_cases hlt : k < l.length
    · obtain ⟨x, y, z, hx, hy, hz, hxyz⟩ := its_at HD.out hlt
      obtain ⟨p, s, A', n', c', rfl, rfl, rfl⟩ := it_cells hxyz
      have HX := Lib.hid hxyz
      clear hxyz
      obtain ⟨b0, o, rfl, hb0, hcell⟩ := HR.out.cells HS.out.ag (by rintro rfl; simp at hx)
      have h0 := hcell _ _ hx
      have h1 := hcell _ _ hy
      have h2 := hcell _ _ hz
      rw [← Nat.add_assoc] at h1 h2
      clear hcell hx hy hz
      have hle := encL_take_le l (k + 1)
      have he := encL_take l hlt
      have hsz : (bs (encL (l.take k))).size = (encL (l.take k)).length := bs_size _
      have hsz2 : l[k].bytes.size = l[k].enc.length := by simp [It.bytes, ByteArray.size]
      have hb1 : l[k].enc.length ≤ 1099511627776 := by
        rw [he, List.length_append] at hle
        omega
      have hcat : (bs (encL (l.take k))).size + l[k].bytes.size ≤ 9223372036854775807 := by
        rw [he, List.length_append] at hle
        omega
      have hcatF : (9223372036854775807 < (bs (encL (l.take k))).size + l[k].bytes.size) = False := eq_false (by omega)
      have HE : Hid (bs (encL (l.take k)) ++ l[k].bytes = bs (encL (l.take (k + 1)))) := Lib.hid (by
        rw [he]
        exact bytes_ext (by rw [data_append]; rfl))
      have HB1 := Lib.hid hb1
      clear he hsz hsz2 hle hb1
      go_wp2_with fail
      refine (HALL.out _ (List.getElem_mem hlt) H _ _ _ _ HS.out.ag HX.out HB1.out).mono ?_
      rintro e w2 ⟨rfl, hb2⟩
      have HS2 := Lib.hid (HS.out.grow hb2)
      clear HS hb2
      go_wp2_with fail
      go_roundw
      case rel => exact ⟨k + 1, by go_num, by omega, by rw [HE.out], HS2⟩
      case measure => simp [intOf]; omega
    · obtain rfl : k = l.length := by omega
      rw [List.take_length]
      have hsz : (bs (encL l)).size = (encL l).length := bs_size _
      have hsz2 : (aheadS 192 (encL l).length).size = (aheadL 192 (encL l).length).length := aheadS_size _ _
      have hcat : (aheadS 192 (encL l).length).size + (bs (encL l)).size ≤ 9223372036854775807 := by omega
      have hcatF : (9223372036854775807 < (aheadS 192 (encL l).length).size + (bs (encL l)).size) = False := eq_false (by omega)
      have HHD := Lib.hid (rhead192 (encL l).length (by omega))
      have HSZ := Lib.hid hsz
      have HFIN : Hid (aheadS 192 (encL l).length ++ bs (encL l) = (It.list l).bytes) := Lib.hid (bytes_ext (by rw [data_append]; simp [It.bytes, It.enc, aheadS, bs]))
      clear hsz hsz2
      go_wp2_with fail
      rw [HSZ.out]
      refine (HHD.out _).mono ?_
      rintro e w2 ⟨rfl, hb2⟩
      have HB := Lib.hid (HS.out.grow hb2)
      clear HS hb2
      go_wp2_with fail
      go_ret
      refine ⟨?_, HB.out.below⟩
      rw [← HFIN.out]; rfl
mutual
theorem renc_ok : ∀ i : It, i.short → REncOk i
  | .text s, _ => renc_text s
  | .list l, h => renc_list l (rencs_ok l h.2) h.1
theorem rencs_ok : ∀ l : List It, shortL l → ∀ i ∈ l, REncOk i
  | [], _, i, hi => by simp at hi
  | x :: l, h, i, hi => by
    rcases List.mem_cons.1 hi with e | hi
    · rw [e]; exact renc_ok x h.1
    · exact rencs_ok l h.2 i hi
end
end Go.Proofs.YtfphlkkhpccpnaaDoor

namespace Go.Proofs.YtfphlkkhpccpnaaDoor
open Go.RowKit Go.Proofs K
set_option linter.unusedVariables false

theorem valN_take (s : ByteArray) {k : Nat} (h : k < s.size) : valN (s.data.toList.take (k + 1)) = valN (s.data.toList.take k) * 256 + s[k].toNat := by
  rw [List.take_succ_eq_append_getElem (by simpa using h), valN_snoc]
  rfl
theorem prefix0 (s : ByteArray) : Lib.hasPrefix s.data.toList [0] = if h : 0 < s.size then decide (s[0].toNat = 0) else false := by
  obtain ⟨⟨l⟩⟩ := s
  cases l with
  | nil => rfl
  | cons b l =>
    rw [dif_pos (show 0 < (⟨⟨b :: l⟩⟩ : ByteArray).size by simp [ByteArray.size])]
    show ((0 : UInt8) == b && List.isPrefixOf [] l) = decide (b.toNat = 0)
    rw [Bool.eq_iff_iff]
    simp
    exact ⟨fun h => by rw [← h]; rfl, fun h => (UInt8.toNat_inj.1 (by rw [h]; rfl)).symm⟩
set_option maxRecDepth 100000 in
set_option maxHeartbeats 2000000 in
theorem rsmall_text (s : ByteArray) (A : Option Addr) (n c : Nat) (hs : s.size ≤ 140737488355328) (w : World) : Calls Tryd.prog 45 #[.agg #[.bool false, .string s, .slice A n c]] w (RetV (.tuple #[.int .u64 (smallR s), .bool (smallOk s)]) w) := by
  have HP := Lib.hid (prefix0 s)
  by_cases h8 : s.size ≤ 8
  · have l8 : ((s.size : Int) > 8) = False := eq_false (by omega)
    by_cases h0 : 0 < s.size
    · by_cases hz : s[0].toNat = 0
      · have HR : Hid (smallR s = 0 ∧ smallOk s = false) := Lib.hid (by
          have : smallOk s = false := by unfold smallOk; rw [HP.out, dif_pos h0, hz]; simp
          exact ⟨by unfold smallR; rw [this]; rfl, this⟩)
        have e1 : ((s[0].toNat : Int) == 0) = true := by rw [beq_iff_eq]; omega
        clear hz
        go_enter Tryd.func45, Tryd.ntmps45
        go_wp2_with fail
        go_ret2
        exact ⟨by rw [HR.out.1, HR.out.2]; rfl, (Below.refl _ _).alloc (Nat.le_refl _) _⟩
      · have HR : Hid (smallR s = (valN s.data.toList : Int) ∧ smallOk s = true) := Lib.hid (by
          have : smallOk s = true := by unfold smallOk; rw [HP.out, dif_pos h0]; simp [h8, hz]
          exact ⟨by unfold smallR; rw [this, if_pos rfl]; exact smallV_val (by simpa using h8), this⟩)
        have e1 : ((s[0].toNat : Int) == 0) = false := by rw [beq_eq_false_iff_ne]; omega
        clear hz
        go_enter Tryd.func45, Tryd.ntmps45
        go_wp2_with fail
        go_loopw [4, 5] (fun x i wr => ∃ k : Nat, i = .int .i64 k ∧ k ≤ s.size ∧ x = .int .u64 ((valN (s.data.toList.take k) : Nat) : Int) ∧ Hid (Below w.heap.size w wr) ∧ wr.cell? ⟨w.heap.size, 1, none⟩ = some (.string s)) (fun _ i _ => s.size - (intOf i).toNat)
        case atStart => exact ⟨0, rfl, by omega, rfl, (Below.refl _ _).alloc (Nat.le_refl _) _, by rw [cell_of_row _ _ _ _ _ _ (heap_alloc_new w _)]; rfl⟩
        case round =>
          obtain ⟨k, rfl, hk, rfl, HW, hcl⟩ := hrel
          by_cases hlt : k < s.size
          · have HX := Lib.hid (valN_take s hlt)
            have hb := s[k].toNat_lt
            have hv : valN (s.data.toList.take k) < 256 ^ 7 := by
              have h1 := valN_lt (l := s.data.toList.take k) (by rw [List.length_take]; omega)
              exact Nat.lt_of_lt_of_le h1 (Nat.pow_le_pow_right (by decide) (by rw [List.length_take]; omega))
            go_wp2_with fail
            go_roundw
            case rel => exact ⟨k + 1, by go_num, by omega, by rw [HX.out]; congr 1, HW, hcl⟩
            case measure => simp [intOf]; omega
          · obtain rfl : k = s.size := by omega
            have hfull : s.data.toList.take s.size = s.data.toList := List.take_of_length_le (by simp)
            rw [hfull]
            go_wp2_with fail
            go_ret2
            exact ⟨by rw [HR.out.1, HR.out.2]; rfl, HW.out⟩
    · have hs0 : s = ⟨#[]⟩ := by
        obtain ⟨⟨l⟩⟩ := s
        cases l with
        | nil => rfl
        | cons => simp [ByteArray.size] at h0
      subst hs0
      clear h0 h8 l8 hs HP
      go_enter Tryd.func45, Tryd.ntmps45
      go_wp2_with fail
      go_loopw [4, 5] (fun x i wr => i = .int .i64 0 ∧ x = .int .u64 0 ∧ Hid (Below w.heap.size w wr) ∧ wr.cell? ⟨w.heap.size, 1, none⟩ = some (.string ⟨#[]⟩)) (fun _ _ _ => 0)
      case atStart => exact ⟨rfl, rfl, (Below.refl _ _).alloc (Nat.le_refl _) _, by rw [cell_of_row _ _ _ _ _ _ (heap_alloc_new w _)]; rfl⟩
      case round =>
        obtain ⟨rfl, rfl, HW, hcl⟩ := hrel
        go_wp2_with fail
        go_ret2
        exact ⟨rfl, HW.out⟩
  · have l8 : ((s.size : Int) > 8) = True := eq_true (by omega)
    have HR : Hid (smallR s = 0 ∧ smallOk s = false) := Lib.hid (by
      have : smallOk s = false := by unfold smallOk; simp [h8]
      exact ⟨by unfold smallR; rw [this]; rfl, this⟩)
    go_enter Tryd.func45, Tryd.ntmps45
    go_wp2_with fail
    go_ret2
    exact ⟨by rw [HR.out.1, HR.out.2]; rfl, (Below.refl _ _).alloc (Nat.le_refl _) _⟩
theorem rsmall_list (s : ByteArray) (A : Option Addr) (n c : Nat) (w : World) : Calls Tryd.prog 45 #[.agg #[.bool true, .string s, .slice A n c]] w (RetV (.tuple #[.int .u64 0, .bool false]) w) := by
  go_enter Tryd.func45, Tryd.ntmps45
  go_wp2_with fail
  go_ret2
  exact ⟨rfl, (Below.refl _ _).alloc (Nat.le_refl _) _⟩
end Go.Proofs.YtfphlkkhpccpnaaDoor

namespace Go.Proofs.YtfphlkkhpccpnaaDoor
open Go.RowKit Go.Proofs K
set_option linter.unusedVariables false

theorem infoInt : (Tryd.prog.info? 3).map (fun i => (i.zero, i.size, i.bytes)) = some (some (.int .i64 0), 1, 8) := by kernel_rfl
def digA0 (a b c d : Int) (k : Nat) : Int := (wrap64 (lim a b c d (k / 8) / 2 ^ (8 * (k % 8)))).tmod 256
def digs (a b c d : Int) (n : Nat) : List Value := (List.range n).map fun k => .int .i64 (digA0 a b c d k)
theorem digs_len (a b c d : Int) (n : Nat) : (digs a b c d n).length = n := by simp [digs]
theorem digs_succ (a b c d : Int) (n : Nat) : digs a b c d (n + 1) = digs a b c d n ++ [.int .i64 (digA0 a b c d n)] := by simp [digs, List.range_succ]
theorem digA0_bd (a b c d : Int) (k : Nat) : -256 < digA0 a b c d k ∧ digA0 a b c d k < 256 := by
  unfold digA0
  generalize wrap64 _ = x
  have h1 := Int.tmod_lt_of_pos x (show (0 : Int) < 256 by decide)
  have h2 : (x.tmod 256) = -((-x).tmod 256) := by rw [Int.neg_tmod]; omega
  have h3 := Int.tmod_lt_of_pos (-x) (show (0 : Int) < 256 by decide)
  omega
theorem lim_bd {a b c d : Int} (ha : W64 a) (hb : W64 b) (hc : W64 c) (hd : W64 d) (k : Nat) : 0 ≤ lim a b c d k ∧ lim a b c d k < 18446744073709551616 := by
  unfold lim
  unfold W64 at ha hb hc hd
  split <;> omega
theorem digA0_mod (a b c d : Int) (k : Nat) (ha : W64 a) (hb : W64 b) (hc : W64 c) (hd : W64 d) : digA0 a b c d k % 256 = wbyte a b c d k := by
  have hl := lim_bd ha hb hc hd (k / 8)
  unfold digA0 wbyte
  rw [Nat.mul_comm 8]
  have h1 : 0 ≤ lim a b c d (k / 8) / 2 ^ (k % 8 * 8) ∧ lim a b c d (k / 8) / 2 ^ (k % 8 * 8) < 18446744073709551616 :=
    ⟨Int.ediv_nonneg hl.1 (Int.pow_nonneg (by decide)), Int.lt_of_le_of_lt (Int.ediv_le_self _ hl.1) hl.2⟩
  generalize lim a b c d (k / 8) / 2 ^ (k % 8 * 8) = y at *
  have h2 := Int.mul_tdiv_add_tmod (wrap64 y) 256
  generalize (wrap64 y).tmod 256 = t at *
  generalize (wrap64 y).tdiv 256 = q at *
  unfold wrap64 at h2
  omega
/-- The first k of them made whole. -/
def digm (a b c d : Int) (k : Nat) : List Value := (List.range 32).map fun j => .int .i64 (if j < k then wbyte a b c d j else digA0 a b c d j)
theorem digm_at (a b c d : Int) (k : Nat) {j : Nat} (h : j < 32) : (digm a b c d k)[j]? = some (.int .i64 (if j < k then wbyte a b c d j else digA0 a b c d j)) := by simp [digm, h]
theorem digm_set (a b c d : Int) {k : Nat} (h : k < 32) : (digm a b c d k).set k (.int .i64 (wbyte a b c d k)) = digm a b c d (k + 1) := by
  apply List.ext_getElem?
  intro j
  rw [List.getElem?_set]
  by_cases hj : j < 32
  · rw [digm_at _ _ _ _ _ hj, digm_at _ _ _ _ _ hj]
    by_cases e : k = j
    · rw [if_pos e, if_pos (by simp [digm]; omega), if_pos (by omega), e]
    · rw [if_neg e]
      by_cases h2 : j < k
      · rw [if_pos h2, if_pos (by omega)]
      · rw [if_neg h2, if_neg (by omega)]
  · have e1 : ∀ k, (digm a b c d k)[j]? = none := fun k => List.getElem?_eq_none (by simp [digm]; omega)
    rw [e1, e1, if_neg (by omega)]
set_option maxRecDepth 100000 in
set_option maxHeartbeats 2000000 in
theorem digits1 (a b c d : Int) (ha : W64 a) (hb : W64 b) (hc : W64 c) (hd0 : W64 d) (w : World) : Calls Tryd.prog 66 #[.agg #[.int .u64 a, .int .u64 b, .int .u64 c, .int .u64 d]] w (fun e w' => ∃ v, e = .returned v ∧ St empH w none_ empH w' [own 3 1 v 32 (digm a b c d 32)]) := by
  have HS : Hid (St empH w none_ empH _ [own 3 1 (.slice none 0 0) 0 (digs a b c d 0), blk (w.heap.size + 1) (.cells #[.int .u64 d, .int .u64 c, .int .u64 b, .int .u64 a] 22)]) := ((((St.start (ag_emp w)).alloc (.cells #[.int .u64 a, .int .u64 b, .int .u64 c, .int .u64 d] 24)).alloc' (.cells #[.int .u64 d, .int .u64 c, .int .u64 b, .int .u64 a] 22) (w.heap.size + 1) (by simp)).pick 0 rfl |>.drop 1).own_nil
  obtain ⟨i0, hi0, hz0, hz1, hz2⟩ := info_parts infoInt
  have HLIM : Hid (∀ k, 0 ≤ lim a b c d k ∧ lim a b c d k < 18446744073709551616) := Lib.hid fun k => by
    exact lim_bd ha hb hc hd0 k
  go_enter Tryd.func66, Tryd.ntmps66
  go_wp2_with fail
  go_loopw [3, 5] (fun v i wr => ∃ (k : Nat) (A : Option Addr) (cp : Nat), i = .int .i64 k ∧ k ≤ 4 ∧ v = .slice A (8 * k) cp ∧ Hid (St empH w none_ empH wr [own 3 1 (.slice A (8 * k) cp) (8 * k) (digs a b c d (8 * k)), blk (w.heap.size + 1) (.cells #[.int .u64 d, .int .u64 c, .int .u64 b, .int .u64 a] 22)])) (fun _ i _ => 4 - (intOf i).toNat)
  case atStart => exact ⟨0, none, 0, rfl, by omega, rfl, HS⟩
  case round =>
    clear HS
    obtain ⟨k, A, cp, rfl, hk, rfl, HS⟩ := hrel
    by_cases hlt : k < 4
    · have hd4 : decide ((k : Int) < 4) = true := by simp; omega
      go_wp2_with fail
      go_loopg [3, 6] 8 (fun g v i wr => ∃ (m : Nat) (A : Option Addr) (cp : Nat), i = .int .i64 m ∧ m + g = 8 ∧ v = .slice A (8 * k + m) cp ∧ Hid (St empH w none_ empH wr [own 3 1 (.slice A (8 * k + m) cp) (8 * k + m) (digs a b c d (8 * k + m)), blk (w.heap.size + 1) (.cells #[.int .u64 d, .int .u64 c, .int .u64 b, .int .u64 a] 22)]))
      case atStart => exact ⟨0, A, cp, rfl, by omega, rfl, HS⟩
      case round =>
        clear HS
        obtain ⟨m, A, cp, rfl, hm, rfl, HS⟩ := hrel
        by_cases hlt2 : m < 8
        · have hl := HLIM.out k
          have hc1 : wr.cell? ⟨w.heap.size + 1, k, none⟩ = some (.int .u64 (lim a b c d k)) := by
            refine HS.out.cell 1 rfl ?_
            rcases (by omega : k = 0 ∨ k = 1 ∨ k = 2 ∨ k = 3) with e | e | e | e <;> rw [e] <;> rfl
          have HS1 := Lib.hid (HS.out.alloc (.cells #[.int .i64 ((wrap64 (lim a b c d k / 2 ^ (8 * m))).tmod 256)] 3))
          have hdg : (wrap64 (lim a b c d k / 2 ^ (8 * m))).tmod 256 = digA0 a b c d (8 * k + m) := by
            unfold digA0
            rw [show (8 * k + m) / 8 = k by omega, show (8 * k + m) % 8 = m by omega]
          have HDG := Lib.hid hdg
          clear HS hdg
          go_wp2_with (first
            | (at_builtin; refine wpList_append_st 1 3 HS1.out rfl rfl _ _ 68 rfl i0 _ 8 Tryd.underlying68 hi0 hz0 hz1 hz2 rfl (by decide) rfl ⟨wr.heap.size, 0, none⟩ 1 1 [.int .i64 ((wrap64 (lim a b c d k / 2 ^ (8 * m))).tmod 256)] rfl rfl (fun j u hj => ?_) (by simp [Value.oneCell']) (by unfold maxLen; omega) (by omega) ?_)
            | fail)
          · rw [Addr.add_lit, Nat.zero_add, cell_of_row _ _ _ _ _ _ (HS1.out.blk_at 0 rfl)]
            simpa using hj
          intro A2 c2 w2 S2
          rw [HDG.out, ← digs_succ] at S2
          have HS2 : Hid (St empH w none_ empH w2 [own 3 1 (.slice A2 (8 * k + (m + 1)) c2) (8 * k + (m + 1)) (digs a b c d (8 * k + (m + 1))), blk (w.heap.size + 1) (.cells #[.int .u64 d, .int .u64 c, .int .u64 b, .int .u64 a] 22)]) := S2.drop 1
          clear S2 HS1
          go_wp2_with fail
          go_roundg (8 - (m + 1))
          case rel => exact ⟨m + 1, A2, c2, by go_num, by omega, rfl, HS2⟩
          case measure => omega
        · obtain rfl : m = 8 := by omega
          go_wp2_with fail
          go_roundw
          case rel => exact ⟨k + 1, A, cp, by go_num, by omega, rfl, HS⟩
          case measure => simp [intOf]; omega
    · obtain rfl : k = 4 := by omega
      go_wp2_with fail
      go_loopw [7] (fun i wr => ∃ (k : Nat), i = .int .i64 k ∧ k ≤ 32 ∧ Hid (St empH w none_ empH wr [own 3 1 (.slice A 32 cp) 32 (digm a b c d k)])) (fun i _ => 32 - (intOf i).toNat)
      case atStart => exact ⟨0, rfl, by omega, HS.out.drop 1⟩
      case round =>
        clear HS
        obtain ⟨j, rfl, hj, HS⟩ := hrel
        by_cases hlt3 : j < 32
        · obtain ⟨g, rfl, hg⟩ := HS.out.ownForm 0 rfl (by decide)
          have hc0 : wr.cell? ⟨g, j, none⟩ = some (.int .i64 (digA0 a b c d j)) := by rw [HS.out.ownCell 0 rfl j (by omega), digm_at _ _ _ _ _ hlt3, if_neg (by omega)]
          have hf0 : wr.frozen? ⟨g, j, none⟩ = false := HS.out.ownFrozen 0 rfl j
          have hd := digA0_bd a b c d j
          have hw1 : wrap64 (digA0 a b c d j + 256) = digA0 a b c d j + 256 := by unfold wrap64; omega
          go_wp2_with fail
          go_roundw
          case rel =>
            have S := HS.out.setOwn 0 rfl j (.int .i64 (digA0 a b c d j % 256))
            rw [show (.int .i64 (digA0 a b c d j % 256) : Value) = .int .i64 (wbyte a b c d j) by rw [digA0_mod a b c d j ha hb hc hd0], digm_set a b c d hlt3] at S
            exact ⟨j + 1, by go_num, by omega, by rw [show (.int .i64 (digA0 a b c d j % 256) : Value) = .int .i64 (wbyte a b c d j) by rw [digA0_mod a b c d j ha hb hc hd0]]; exact S⟩
          case measure => simp [intOf]; omega
        · obtain rfl : j = 32 := by omega
          go_wp2_with fail
          go_ret
          exact ⟨_, rfl, HS.out⟩
theorem madeZeros : (madeCells #[Value.int .u8 0] 32).toList = List.replicate 32 (.int .u8 0) := toList_madeCells_one _ _
def wrow (a b c d : Int) (k : Nat) : List Value := (List.range 32).map fun j => .int .u8 (if j < k then wbyte a b c d (31 - j) else 0)
theorem wrow_at (a b c d : Int) (k : Nat) {j : Nat} (h : j < 32) : (wrow a b c d k)[j]? = some (.int .u8 (if j < k then wbyte a b c d (31 - j) else 0)) := by simp [wrow, h]
theorem wrow_set (a b c d : Int) {k : Nat} (h : k < 32) : (wrow a b c d k).set k (.int .u8 (wbyte a b c d (31 - k))) = wrow a b c d (k + 1) := by
  apply List.ext_getElem?
  intro j
  rw [List.getElem?_set]
  by_cases hj : j < 32
  · rw [wrow_at _ _ _ _ _ hj, wrow_at _ _ _ _ _ hj]
    by_cases e : k = j
    · rw [if_pos e, if_pos (by simp [wrow]; omega), if_pos (by omega), e]
    · rw [if_neg e]
      by_cases h2 : j < k
      · rw [if_pos h2, if_pos (by omega)]
      · rw [if_neg h2, if_neg (by omega)]
  · have e1 : ∀ k, (wrow a b c d k)[j]? = none := fun k => List.getElem?_eq_none (by simp [wrow]; omega)
    rw [e1, e1, if_neg (by omega)]
theorem wrow_zero (a b c d : Int) : List.replicate 32 (Value.int .u8 0) = wrow a b c d 0 := by
  apply List.ext_getElem?
  intro j
  by_cases hj : j < 32
  · rw [wrow_at _ _ _ _ _ hj, List.getElem?_replicate, if_pos hj, if_neg (by omega)]
  · rw [List.getElem?_eq_none (by simp; omega), List.getElem?_eq_none (by simp [wrow]; omega)]
theorem info_u8R : (Tryd.prog.info? 5).map (fun i => (i.zero, i.size, i.bytes)) = some (some (.int .u8 0), 1, 1) := by kernel_rfl
set_option maxRecDepth 100000 in
set_option maxHeartbeats 2000000 in
theorem rwbytes_any (a b c d : Int) (ha : W64 a) (hb : W64 b) (hc : W64 c) (hd : W64 d) (w : World) : Calls Tryd.prog 40 #[.agg #[.int .u64 a, .int .u64 b, .int .u64 c, .int .u64 d]] w (RetV (.string (wordS a b c d)) w) := by
  have HDG := Lib.hid (digits1 a b c d ha hb hc hd)
  have HS := Lib.hid ((St.start (ag_emp w)).alloc (.cells #[.int .u64 a, .int .u64 b, .int .u64 c, .int .u64 d] 24))
  obtain ⟨i0, hi0, hz0, hz1, hz2⟩ := info_parts info_u8R
  have HBD : Hid (∀ k, 0 ≤ wbyte a b c d k ∧ wbyte a b c d k < 256) := Lib.hid fun k => by unfold wbyte; omega
  go_enter Tryd.func40, Tryd.ntmps40
  go_wp2_with fail
  refine (HDG.out _).mono ?_
  rintro z w1 ⟨v, rfl, S1⟩
  have HS1 := Lib.hid (HS.out.more S1)
  clear S1 HS
  go_wp2_with (first
    | (refine wpList_makeFull_st (size := 1) (c := 32) HS1.out rfl 5 33 (.const (.int .i64 32)) (.const (.int .i64 32)) rfl i0 (.int .u8 0) 1 rfl rfl Tryd.underlying33 hi0 hz0 hz1 hz2 (by decide) (by decide) ?_)
    | fail)
  intro w2 S2
  rw [madeZeros, wrow_zero a b c d] at S2
  obtain ⟨g0, hg0, hg1⟩ : ∃ A cp, v = .slice A 32 cp := by
    rcases S2.own_at 1 rfl with ⟨_, ⟨rfl, h0⟩ | ⟨g, cap, cur, rfl, _⟩⟩
    · cases h0
    · exact ⟨_, _, rfl⟩
  subst hg1
  obtain ⟨g, rfl, hg⟩ := S2.ownForm 1 rfl (by decide)
  have HS2 : Hid (St empH w none_ empH w2 [own 5 1 (.slice (some ⟨w1.heap.size, 0, none⟩) 32 32) 32 (wrow a b c d 0), own 3 1 (.slice (some ⟨g, 0, none⟩) 32 hg0) 32 (digm a b c d 32)]) := S2.drop 2
  clear S2 HS1
  go_wp2_with fail
  go_loopw [5] (fun i wr => ∃ k : Nat, i = .int .i64 k ∧ k ≤ 32 ∧ Hid (St empH w none_ empH wr [own 5 1 (.slice (some ⟨w1.heap.size, 0, none⟩) 32 32) 32 (wrow a b c d k), own 3 1 (.slice (some ⟨g, 0, none⟩) 32 hg0) 32 (digm a b c d 32)])) (fun i _ => 32 - (intOf i).toNat)
  case atStart => exact ⟨0, rfl, by omega, HS2⟩
  case round =>
    clear HS2
    obtain ⟨k, rfl, hk, HS⟩ := hrel
    by_cases hlt : k < 32
    · have hi1 : (31 : Int) - k = ((31 - k : Nat) : Int) := by omega
      have hi2 : ((31 - k : Nat) : Int) < 32 := by omega
      have hi3 : (0 : Int) ≤ ((31 - k : Nat) : Int) := by omega
      have hc1 : wr.cell? ⟨g, 31 - k, none⟩ = some (.int .i64 (wbyte a b c d (31 - k))) := by rw [HS.out.ownCell 1 rfl (31 - k) (by omega), digm_at _ _ _ _ _ (by omega), if_pos (by omega)]
      have hc2 : wr.cell? ⟨w1.heap.size, k, none⟩ = some (.int .u8 0) := by rw [HS.out.ownCell 0 rfl k (by omega), wrow_at _ _ _ _ _ hlt, if_neg (by omega)]
      have hf2 : wr.frozen? ⟨w1.heap.size, k, none⟩ = false := HS.out.ownFrozen 0 rfl k
      have hbd := HBD.out (31 - k)
      have hb1 := hbd.1
      have hb2 := hbd.2
      go_wp2_with fail
      go_roundw
      case rel =>
        have S := HS.out.setOwn 0 rfl k (.int .u8 (wbyte a b c d (31 - k)))
        rw [wrow_set a b c d hlt] at S
        exact ⟨k + 1, by go_num, by omega, S⟩
      case measure => simp [intOf]; omega
    · obtain rfl : k = 32 := by omega
      have hconv := run_convert_bytes_arg wr 33 5 Tryd.underlying33 Tryd.underlying5 w1.heap.size 0 32 32 (wordL a b c d) rfl (fun i hi => by
        rw [Nat.zero_add, wordL_at _ _ _ _ hi, HS.out.ownCell 0 rfl i (by omega), wrow_at _ _ _ _ _ hi, if_pos (by omega)]) 9 Tryd.underlying9
      go_wp2_with fail
      go_ret
      exact ⟨rfl, HS.out.below⟩
end Go.Proofs.YtfphlkkhpccpnaaDoor

namespace Go.Proofs.YtfphlkkhpccpnaaDoor
open Go.RowKit Go.Proofs K
set_option linter.unusedVariables false

theorem info_u64R : (Tryd.prog.info? 22).map (fun i => (i.zero, i.size, i.bytes)) = some (some (.int .u64 0), 1, 8) := by kernel_rfl
def ofRow (s : ByteArray) (k : Nat) : List Value := [.int .u64 (ofL s k 0), .int .u64 (ofL s k 1), .int .u64 (ofL s k 2), .int .u64 (ofL s k 3)]
theorem ofRow_at (s : ByteArray) (k : Nat) {i : Nat} (h : i < 4) : (ofRow s k)[i]? = some (.int .u64 (ofL s k i)) := by
  rcases (by omega : i = 0 ∨ i = 1 ∨ i = 2 ∨ i = 3) with e | e | e | e <;> rw [e] <;> rfl
theorem ofRow_set (s : ByteArray) {k : Nat} (h : k < 32) : (ofRow s k).set (k / 8) (.int .u64 (bits BinOp.or IntKind.u64 (ofL s k (k / 8)) (IntKind.u64.wrap (IntKind.u64.wrap (lowB s k) * 2 ^ (k % 8 * 8))))) = ofRow s (k + 1) := by
  rcases (by omega : k / 8 = 0 ∨ k / 8 = 1 ∨ k / 8 = 2 ∨ k / 8 = 3) with e | e | e | e <;> simp [ofRow, ofL, e]
def lowRow (s : ByteArray) (n : Nat) : List Value := (List.range n).map fun j => .int .i64 (lowB s j)
theorem lowRow_at (s : ByteArray) {n j : Nat} (h : j < n) : (lowRow s n)[j]? = some (.int .i64 (lowB s j)) := by simp [lowRow, h]
theorem lowB_bd (s : ByteArray) (k : Nat) : 0 ≤ lowB s k ∧ lowB s k < 256 := by
  unfold lowB
  have := (s.data.toList.getD (s.size - 1 - k) 0).toNat_lt
  omega
set_option maxRecDepth 100000 in
set_option maxHeartbeats 4000000 in
theorem join0 (s : ByteArray) (hs : s.size ≤ 32) {A : Option Addr} {c : Nat} {w : World} (hcells : ∀ j, j < s.size → ∃ g, A = some ⟨g, 0, none⟩ ∧ g < w.heap.size ∧ w.cell? ⟨g, j, none⟩ = some (.int .i64 (lowB s j))) :
    Calls Tryd.prog 71 #[.slice A s.size c] w (RetV (.agg #[.int .u64 (ofL s s.size 3), .int .u64 (ofL s s.size 2), .int .u64 (ofL s s.size 1), .int .u64 (ofL s s.size 0)]) w) := by
  have HC := Lib.hid hcells
  have HS := Lib.hid ((St.start (ag_emp w)).alloc (.cells #[.int .u64 0, .int .u64 0, .int .u64 0, .int .u64 0] 24))
  obtain ⟨i0, hi0, hz0, hz1, hz2⟩ := info_parts info_u64R
  clear hcells
  go_enter Tryd.func71, Tryd.ntmps71
  go_wp2_with (first
    | (refine wpList_makeFull_st (size := 1) (c := 4) HS.out rfl 22 161 (.const (.int .i64 4)) (.const (.int .i64 4)) rfl i0 (.int .u64 0) 8 rfl rfl Tryd.underlying161 hi0 hz0 hz1 hz2 (by decide) (by decide) ?_)
    | fail)
  intro w2 S2
  rw [toList_madeCells_one] at S2
  have HS2 : Hid (St empH w none_ empH w2 [own 22 1 (.slice (some ⟨w.heap.size + 1, 0, none⟩) 4 4) 4 (ofRow s 0), blk w.heap.size (.cells #[.int .u64 0, .int .u64 0, .int .u64 0, .int .u64 0] 24)]) := S2
  clear S2 HS
  go_wp2_with fail
  go_loopw [4] (fun i wr => ∃ k : Nat, i = .int .i64 k ∧ k ≤ s.size ∧ Hid (St empH w none_ empH wr [own 22 1 (.slice (some ⟨w.heap.size + 1, 0, none⟩) 4 4) 4 (ofRow s k), blk w.heap.size (.cells #[.int .u64 0, .int .u64 0, .int .u64 0, .int .u64 0] 24)])) (fun i _ => 32 - (intOf i).toNat)
  case atStart => exact ⟨0, rfl, by omega, HS2⟩
  case round =>
    clear HS2
    obtain ⟨k, rfl, hk, HS⟩ := hrel
    by_cases hlt : k < s.size
    · obtain ⟨g, rfl, hg, hcl⟩ := HC.out k hlt
      have hc0 : wr.cell? ⟨g, k, none⟩ = some (.int .i64 (lowB s k)) := by rw [HS.out.below.cell (p := ⟨g, k, none⟩) hg]; exact hcl
      have hk4 : k / 8 < 4 := by omega
      have hc1 : wr.cell? ⟨w.heap.size + 1, k / 8, none⟩ = some (.int .u64 (ofL s k (k / 8))) := by rw [HS.out.ownCell 0 rfl (k / 8) (by omega), ofRow_at _ _ hk4]
      have hf1 : wr.frozen? ⟨w.heap.size + 1, k / 8, none⟩ = false := HS.out.ownFrozen 0 rfl (k / 8)
      have hq : (k : Int).tdiv 8 = ((k / 8 : Nat) : Int) := by rw [Int.tdiv_eq_ediv_of_nonneg (by omega)]; omega
      have hr : (k : Int).tmod 8 = ((k % 8 : Nat) : Int) := by rw [Int.tmod_eq_emod_of_nonneg (by omega)]; omega
      have hd32 : decide ((k : Int) < 32) = true := by simp; omega
      have hi1 : (0 : Int) ≤ ((k / 8 : Nat) : Int) := by omega
      have hi2 : ((k / 8 : Nat) : Int) < 4 := by omega
      clear hcl
      go_wp2_with fail
      go_region
      go_wp2_with fail
      go_roundw
      case rel =>
        have S := (HS.out.setOwn 0 rfl (k / 8) (.int .u64 (bits BinOp.or IntKind.u64 (ofL s k (k / 8)) (IntKind.u64.wrap (IntKind.u64.wrap (lowB s k) * 2 ^ (8 * (k % 8))))))).drew
        rw [Nat.mul_comm 8 (k % 8), ofRow_set s (by omega)] at S
        rw [Nat.mul_comm 8 (k % 8)]
        exact ⟨k + 1, by go_num, by omega, S⟩
      case measure => simp [intOf]; omega
    · obtain rfl : k = s.size := by omega
      have h0 : wr.cell? ⟨w.heap.size + 1, 0, none⟩ = some (.int .u64 (ofL s s.size 0)) := HS.out.ownCell 0 rfl 0 (by decide)
      have h1 : wr.cell? ⟨w.heap.size + 1, 1, none⟩ = some (.int .u64 (ofL s s.size 1)) := HS.out.ownCell 0 rfl 1 (by decide)
      have h2 : wr.cell? ⟨w.heap.size + 1, 2, none⟩ = some (.int .u64 (ofL s s.size 2)) := HS.out.ownCell 0 rfl 2 (by decide)
      have h3 : wr.cell? ⟨w.heap.size + 1, 3, none⟩ = some (.int .u64 (ofL s s.size 3)) := HS.out.ownCell 0 rfl 3 (by decide)
      have d0 : wr.cell? ⟨w.heap.size, 0, none⟩ = some (.int .u64 0) := HS.out.cell 1 rfl rfl
      have d1 : wr.cell? ⟨w.heap.size, 1, none⟩ = some (.int .u64 0) := HS.out.cell 1 rfl rfl
      have d2 : wr.cell? ⟨w.heap.size, 2, none⟩ = some (.int .u64 0) := HS.out.cell 1 rfl rfl
      have d3 : wr.cell? ⟨w.heap.size, 3, none⟩ = some (.int .u64 0) := HS.out.cell 1 rfl rfl
      have g0 : wr.frozen? ⟨w.heap.size, 0, none⟩ = false := HS.out.frozen 1 rfl 0
      have g1 : wr.frozen? ⟨w.heap.size, 1, none⟩ = false := HS.out.frozen 1 rfl 1
      have g2 : wr.frozen? ⟨w.heap.size, 2, none⟩ = false := HS.out.frozen 1 rfl 2
      have g3 : wr.frozen? ⟨w.heap.size, 3, none⟩ = false := HS.out.frozen 1 rfl 3
      have S1 : St empH w none_ empH (wr.setCell ⟨w.heap.size, 0, none⟩ (.int .u64 (ofL s s.size 3))) [blk w.heap.size (.cells #[.int .u64 (ofL s s.size 3), .int .u64 0, .int .u64 0, .int .u64 0] 24), own 22 1 (.slice (some ⟨w.heap.size + 1, 0, none⟩) 4 4) 4 (ofRow s s.size)] := HS.out.setCell (j := 0) 1 rfl (.int .u64 (ofL s s.size 3))
      have S2 : St empH w none_ empH ((wr.setCell ⟨w.heap.size, 0, none⟩ (.int .u64 (ofL s s.size 3))).setCell ⟨w.heap.size, 1, none⟩ (.int .u64 (ofL s s.size 2))) [blk w.heap.size (.cells #[.int .u64 (ofL s s.size 3), .int .u64 (ofL s s.size 2), .int .u64 0, .int .u64 0] 24), own 22 1 (.slice (some ⟨w.heap.size + 1, 0, none⟩) 4 4) 4 (ofRow s s.size)] := S1.setCell (j := 1) 0 rfl (.int .u64 (ofL s s.size 2))
      have S3 : St empH w none_ empH (((wr.setCell ⟨w.heap.size, 0, none⟩ (.int .u64 (ofL s s.size 3))).setCell ⟨w.heap.size, 1, none⟩ (.int .u64 (ofL s s.size 2))).setCell ⟨w.heap.size, 2, none⟩ (.int .u64 (ofL s s.size 1))) [blk w.heap.size (.cells #[.int .u64 (ofL s s.size 3), .int .u64 (ofL s s.size 2), .int .u64 (ofL s s.size 1), .int .u64 0] 24), own 22 1 (.slice (some ⟨w.heap.size + 1, 0, none⟩) 4 4) 4 (ofRow s s.size)] := S2.setCell (j := 2) 0 rfl (.int .u64 (ofL s s.size 1))
      have S4 : St empH w none_ empH ((((wr.setCell ⟨w.heap.size, 0, none⟩ (.int .u64 (ofL s s.size 3))).setCell ⟨w.heap.size, 1, none⟩ (.int .u64 (ofL s s.size 2))).setCell ⟨w.heap.size, 2, none⟩ (.int .u64 (ofL s s.size 1))).setCell ⟨w.heap.size, 3, none⟩ (.int .u64 (ofL s s.size 0))) [blk w.heap.size (.cells #[.int .u64 (ofL s s.size 3), .int .u64 (ofL s s.size 2), .int .u64 (ofL s s.size 1), .int .u64 (ofL s s.size 0)] 24), own 22 1 (.slice (some ⟨w.heap.size + 1, 0, none⟩) 4 4) 4 (ofRow s s.size)] := S3.setCell (j := 3) 0 rfl (.int .u64 (ofL s s.size 0))
      have HS4 : Hid (St empH w none_ empH ((((wr.setCell ⟨w.heap.size, 0, none⟩ (.int .u64 (ofL s s.size 3))).setCell ⟨w.heap.size, 1, none⟩ (.int .u64 (ofL s s.size 2))).setCell ⟨w.heap.size, 2, none⟩ (.int .u64 (ofL s s.size 1))).setCell ⟨w.heap.size, 3, none⟩ (.int .u64 (ofL s s.size 0))).drew [blk w.heap.size (.cells #[.int .u64 (ofL s s.size 3), .int .u64 (ofL s s.size 2), .int .u64 (ofL s s.size 1), .int .u64 (ofL s s.size 0)] 24), own 22 1 (.slice (some ⟨w.heap.size + 1, 0, none⟩) 4 4) 4 (ofRow s s.size)]) := S4.drew
      clear S1 S2 S3 S4
      go_wp2_with fail
      all_goals
        go_region
        go_wp2_with fail
        exact post_cell 0 HS4.out rfl Tryd.results71 rfl _ Tryd.underlying24 rfl szWord rfl ⟨rfl, HS4.out.below⟩
theorem rof_no (s : ByteArray) (hs : 32 < s.size) (w : World) : Calls Tryd.prog 46 #[.string s] w (RetV (.tuple #[word0, .bool false]) w) := by
  go_enter Tryd.func46, Tryd.ntmps46
  go_wp2
  exact bodyPost_ret (v := .tuple #[word0, .bool false]) (by simp [results, word0, Tryd.results46, go_sem]) rfl ⟨rfl, (Below.refl _ _).alloc (Nat.le_refl _) _⟩
theorem lowRow_succ (s : ByteArray) (n : Nat) : lowRow s (n + 1) = lowRow s n ++ [.int .i64 (lowB s n)] := by simp [lowRow, List.range_succ]
set_option maxRecDepth 100000 in
set_option maxHeartbeats 2000000 in
theorem rof_any (s : ByteArray) (hs : s.size ≤ 32) (w : World) : Calls Tryd.prog 46 #[.string s] w (RetV (.tuple #[.agg #[.int .u64 (ofL s s.size 3), .int .u64 (ofL s s.size 2), .int .u64 (ofL s s.size 1), .int .u64 (ofL s s.size 0)], .bool true]) w) := by
  have HS : Hid (St empH w none_ empH _ [own 3 1 (.slice none 0 0) 0 (lowRow s 0), blk w.heap.size (.cells #[.int .u64 0, .int .u64 0, .int .u64 0, .int .u64 0] 24)]) := ((St.start (ag_emp w)).alloc (.cells #[.int .u64 0, .int .u64 0, .int .u64 0, .int .u64 0] 24)).own_nil
  obtain ⟨i0, hi0, hz0, hz1, hz2⟩ := info_parts infoInt
  go_enter Tryd.func46, Tryd.ntmps46
  go_wp2_with fail
  go_loopw [4, 5] (fun v i wr => ∃ (k : Nat) (A : Option Addr) (cp : Nat), i = .int .i64 ((s.size : Int) - 1 - k) ∧ k ≤ s.size ∧ v = .slice A k cp ∧ Hid (St empH w none_ empH wr [own 3 1 (.slice A k cp) k (lowRow s k), blk w.heap.size (.cells #[.int .u64 0, .int .u64 0, .int .u64 0, .int .u64 0] 24)])) (fun _ i _ => (intOf i + 1).toNat)
  case atStart => exact ⟨0, none, 0, by simp, by omega, rfl, HS⟩
  case round =>
    clear HS
    obtain ⟨k, A, cp, rfl, hk, rfl, HS⟩ := hrel
    by_cases hlt : k < s.size
    · have hix : (s.size : Int) - 1 - k = ((s.size - 1 - k : Nat) : Int) := by omega
      have hix2 : s.size - 1 - k < s.size := by omega
      rw [hix]
      have HB := Lib.hid (show ((s[s.size - 1 - k].toNat : Nat) : Int) = lowB s k by simp only [lowB, List.getD]; rw [List.getElem?_eq_getElem (show s.size - 1 - k < s.data.toList.length by simpa using hix2)]; rfl)
      have HS1 := Lib.hid (HS.out.alloc (.cells #[.int .i64 (s[s.size - 1 - k].toNat : Int)] 3))
      have HIX := Lib.hid hix
      have hw64 : wrap64 (s[s.size - 1 - k].toNat : Int) = (s[s.size - 1 - k].toNat : Int) := by have := s[s.size - 1 - k].toNat_lt; unfold wrap64; omega
      clear HS hix
      go_wp2_with (first
        | (at_builtin; refine wpList_append_st 1 3 HS1.out rfl rfl _ _ 68 rfl i0 _ 8 Tryd.underlying68 hi0 hz0 hz1 hz2 rfl (by decide) rfl ⟨wr.heap.size, 0, none⟩ 1 1 [.int .i64 (s[s.size - 1 - k].toNat : Int)] rfl rfl (fun j u hj => ?_) (by simp [Value.oneCell']) (by unfold maxLen; omega) (by omega) ?_)
        | fail)
      · rw [Addr.add_lit, Nat.zero_add, cell_of_row _ _ _ _ _ _ (HS1.out.blk_at 0 rfl)]
        simpa using hj
      intro A2 c2 w2 S2
      rw [HB.out, ← lowRow_succ] at S2
      have HS2 : Hid (St empH w none_ empH w2 [own 3 1 (.slice A2 (k + 1) c2) (k + 1) (lowRow s (k + 1)), blk w.heap.size (.cells #[.int .u64 0, .int .u64 0, .int .u64 0, .int .u64 0] 24)]) := S2.drop 1
      clear S2 HS1
      go_wp2_with fail
      go_roundw
      case rel => exact ⟨k + 1, A2, c2, by first | (congr 1; omega) | (congr 1), by omega, rfl, HS2⟩
      case measure => simp [intOf]
    · obtain rfl : k = s.size := by omega
      have hneg : (s.size : Int) - 1 - s.size = -1 := by omega
      rw [hneg]
      have HJ := Lib.hid (join0 s hs (A := A) (c := cp) (w := wr) (fun j hj => by
        obtain ⟨g, rfl, hg⟩ := HS.out.ownForm 0 rfl (by omega)
        exact ⟨g, rfl, hg, by rw [HS.out.ownCell 0 rfl j (by omega), lowRow_at s hj]⟩))
      go_wp2_with fail
      refine HJ.out.mono ?_
      rintro e w2 ⟨rfl, hb2⟩
      have HS3 := Lib.hid (HS.out.grow hb2)
      clear HS hb2 HJ
      go_wp2_with (first
        | (refine wpList_store_st (cs := #[.int .u64 (ofL s s.size 3), .int .u64 (ofL s s.size 2), .int .u64 (ofL s s.size 1), .int .u64 (ofL s s.size 0)]) 1 HS3.out rfl rfl 24 (.tmp 2) (.tmp 25) rfl rfl rfl szWord rfl (oneW _ _ _ _) ?_)
        | fail)
      intro w4 S4
      go_wp2_with fail
      exact post_cell2 0 S4 rfl Tryd.results46 rfl _ Tryd.underlying24 rfl szWord rfl ⟨rfl, S4.below⟩
end Go.Proofs.YtfphlkkhpccpnaaDoor

namespace Go.Proofs.YtfphlkkhpccpnaaDoor
open Go.RowKit Go.Proofs K
set_option linter.unusedVariables false

def baseN (b : UInt8) : Nat := if 192 ≤ b.toNat then 192 else 128
/-- How many bytes stand ahead, and how many there are then. -/
def sizeO : List UInt8 → Option (Nat × Nat)
  | [] => none
  | b :: r => if b.toNat < 128 then some (0, 1) else match manyL (b.toNat - baseN b) r with
    | none => none
    | some (n, r2) => if n ≤ r2.length then some (1 + (r.length - r2.length), n) else none
def SizeP (l : List UInt8) (w : World) (e : Ending) (w' : World) : Prop := w' = w ∧ ∃ (a n : Nat) (ok : Bool), e = .returned (.tuple #[.int .i64 a, .int .i64 n, .bool ok]) ∧ (if ok then some (a, n) else none) = sizeO l
theorem valN_mono (l m : List UInt8) : valN l ≤ valN (l ++ m) := by
  unfold valN
  rw [List.foldl_append]
  generalize List.foldl (fun n b => n * 256 + b.toNat) 0 l = x
  induction m generalizing x with
  | nil => exact Nat.le_refl _
  | cons b m ih => exact Nat.le_trans (by omega) (ih (x * 256 + b.toNat))
theorem valN_take_le (l : List UInt8) {i k : Nat} (h : i ≤ k) : valN (l.take i) ≤ valN (l.take k) := by
  have e : l.take k = l.take i ++ (l.take k).drop i := by
    have := List.take_append_drop i (l.take k)
    rw [List.take_take, Nat.min_eq_left h] at this
    exact this.symm
  rw [e]
  exact valN_mono _ _
theorem bs_get (l : List UInt8) {i : Nat} (h : i < (bs l).size) : (bs l)[i] = l[i]'(by rw [bs_size] at h; exact h) := rfl
theorem sizeO_cons (b : UInt8) (r : List UInt8) : sizeO (b :: r) = if b.toNat < 128 then some (0, 1) else match manyL (b.toNat - baseN b) r with
    | none => none
    | some (n, r2) => if n ≤ r2.length then some (1 + (r.length - r2.length), n) else none := rfl
theorem size_post {l : List UInt8} {w : World} {a : Act} (x y : Nat) (ok : Bool) (h2 : a.tmps.getD 2 undef = .int .i64 x) (h3 : a.tmps.getD 3 undef = .int .i64 y) (h4 : a.tmps.getD 4 undef = .bool ok) (hd : a.defers = []) (ho : (if ok then some (x, y) else none) = sizeO l) :
    bodyPost Tryd.prog Tryd.f94 (SizeP l w) .ret a w := by
  refine bodyPost_ret (v := .tuple #[.int .i64 x, .int .i64 y, .bool ok]) ?_ hd ⟨rfl, x, y, ok, rfl, ho⟩
  rw [Array.getD_eq_getD_getElem?] at h2 h3 h4
  simp [results, Tryd.results94, go_sem]
  exact ⟨h2, h3, h4⟩
set_option maxRecDepth 100000 in
theorem size_nil (w : World) : Calls Tryd.prog 94 #[.string (bs [])] w (SizeP [] w) := by
  go_enter Tryd.func94, Tryd.ntmps94
  go_wp2_with fail
  exact size_post 0 0 false rfl rfl rfl rfl rfl
section
variable {b : UInt8} {r : List UInt8} {s : ByteArray}
set_option maxRecDepth 100000 in
theorem size_low (hs : s = bs (b :: r)) (hb : b.toNat < 128) (w : World) : Calls Tryd.prog 94 #[.string s] w (SizeP (b :: r) w) := by
  have h0 : 0 < s.size := by rw [hs, bs_size]; simp
  have hb0 : s[0] = b := by subst hs; rfl
  have hz : ((s.size : Int) == 0) = false := by rw [beq_eq_false_iff_ne]; omega
  have hb1 : (b.toNat : Int) < 128 := by omega
  have hb2 : ¬ (192 : Int) ≤ (b.toNat : Int) := by omega
  have hw : wrap64 (b.toNat : Int) = (b.toNat : Int) := by have := b.toNat_lt; unfold wrap64; omega
  have HO : Hid (sizeO (b :: r) = some (0, 1)) := Lib.hid (by rw [sizeO_cons, if_pos hb])
  clear hs hb
  go_enter Tryd.func94, Tryd.ntmps94
  go_wp2_with fail
  exact size_post 0 1 true rfl rfl rfl rfl HO.out.symm
theorem short_o (B : Nat) (hb : 128 ≤ b.toNat) (hB : B = baseN b) (hk : b.toNat - B ≤ 55) : sizeO (b :: r) = if b.toNat - B ≤ r.length then some (1, b.toNat - B) else none := by
  rw [sizeO_cons, if_neg (show ¬ b.toNat < 128 by omega), ← hB]
  unfold manyL
  rw [if_pos hk]
  simp only
  split
  · simp
  · rfl
set_option maxRecDepth 100000 in
theorem size_short (hs : s = bs (b :: r)) (hb : 128 ≤ b.toNat) (hk : b.toNat - baseN b ≤ 55) (hl : r.length ≤ 65536) (w : World) : Calls Tryd.prog 94 #[.string s] w (SizeP (b :: r) w) := by
  have h0 : 0 < s.size := by rw [hs, bs_size]; simp
  have hsz : (s.size : Int) - 1 = (r.length : Int) := by rw [hs, bs_size]; simp
  have hb0 : s[0] = b := by subst hs; rfl
  have hz : ((s.size : Int) == 0) = false := by rw [beq_eq_false_iff_ne]; omega
  have hb1 : ¬ (b.toNat : Int) < 128 := by omega
  have hb9 := b.toNat_lt
  have hw : wrap64 (b.toNat : Int) = (b.toNat : Int) := by unfold wrap64; omega
  by_cases h192 : 192 ≤ b.toNat
  · have hB : 192 = baseN b := by unfold baseN; rw [if_pos h192]
    rw [← hB] at hk
    have hb2 : (192 : Int) ≤ (b.toNat : Int) := by omega
    obtain ⟨k, hk0⟩ : ∃ k, b.toNat - 192 = k := ⟨_, rfl⟩
    have HO := Lib.hid (short_o (r := r) 192 hb hB hk)
    rw [hk0] at HO hk
    have hsub : (b.toNat : Int) - 192 = (k : Int) := by omega
    have hk' : (k : Int) ≤ 55 := by omega
    clear hs hb hB hk h192 hk0
    go_enter Tryd.func94, Tryd.ntmps94
    go_wp2_with fail
    refine size_post 1 k (decide (k ≤ r.length)) rfl rfl rfl rfl ?_
    rw [HO.out]
    by_cases h : k ≤ r.length
    · rw [if_pos h, if_pos (decide_eq_true h)]
    · rw [if_neg h, if_neg (by simp [h])]
  · have hB : 128 = baseN b := by unfold baseN; rw [if_neg h192]
    rw [← hB] at hk
    have hb2 : ¬ (192 : Int) ≤ (b.toNat : Int) := by omega
    obtain ⟨k, hk0⟩ : ∃ k, b.toNat - 128 = k := ⟨_, rfl⟩
    have HO := Lib.hid (short_o (r := r) 128 hb hB hk)
    rw [hk0] at HO hk
    have hsub : (b.toNat : Int) - 128 = (k : Int) := by omega
    have hk' : (k : Int) ≤ 55 := by omega
    clear hs hb hB hk h192 hk0
    go_enter Tryd.func94, Tryd.ntmps94
    go_wp2_with fail
    refine size_post 1 k (decide (k ≤ r.length)) rfl rfl rfl rfl ?_
    rw [HO.out]
    by_cases h : k ≤ r.length
    · rw [if_pos h, if_pos (decide_eq_true h)]
    · rw [if_neg h, if_neg (by simp [h])]
/-- A long one's size: its bytes are there, do not begin with 0, and are a number that is neither small nor too large. -/
def LongOk (m : Nat) (r : List UInt8) : Prop := m ≤ r.length ∧ r[0]? ≠ some 0 ∧ 55 < valN (r.take m) ∧ valN (r.take m) ≤ 65536 ∧ valN (r.take m) ≤ r.length - m
theorem long_many {k m : Nat} (hk : 55 < k) (hm : k - 55 = m) (hm8 : m ≤ 8) (h : m ≤ r.length) (h0 : r[0]? ≠ some 0) (h55 : 55 < valN (r.take m)) (h6 : valN (r.take m) ≤ 65536) : manyL k r = some (valN (r.take m), r.drop m) := by
  have h1 : smallOk ⟨(r.take m).toArray⟩ = true := by
    unfold smallOk
    have : Lib.hasPrefix (r.take m) [0] = false := by
      cases r with
      | nil => simp at h; omega
      | cons c t =>
        cases m with
        | zero => omega
        | succ m =>
          show ((0 : UInt8) == c && List.isPrefixOf [] _) = false
          have : ((0 : UInt8) == c) = false := beq_eq_false_iff_ne.2 fun e => h0 (by rw [← e]; rfl)
          rw [this]; rfl
    rw [this]
    simp [ByteArray.size]
    omega
  have h2 : smallR ⟨(r.take m).toArray⟩ = (valN (r.take m) : Int) := by
    unfold smallR
    rw [if_pos h1]
    exact smallV_val (by rw [List.length_take]; omega)
  unfold manyL
  rw [if_neg (by omega), hm, if_pos h]
  simp only
  rw [if_pos ⟨h1, by rw [h2]; omega, by rw [h2]; omega⟩, h2]
  rfl
theorem many_long {k m n : Nat} {r2 : List UInt8} (hk : 55 < k) (hm : k - 55 = m) (hm8 : m ≤ 8) (h : manyL k r = some (n, r2)) : m ≤ r.length ∧ r[0]? ≠ some 0 ∧ 55 < valN (r.take m) ∧ valN (r.take m) ≤ 65536 := by
  unfold manyL at h
  rw [if_neg (by omega), hm] at h
  split at h
  · rename_i hl
    simp only at h
    split at h
    · rename_i h3
      have h2 : smallR ⟨(r.take m).toArray⟩ = (valN (r.take m) : Int) := by
        unfold smallR
        rw [if_pos h3.1]
        exact smallV_val (by rw [List.length_take]; omega)
      rw [h2] at h3
      refine ⟨hl, fun e => ?_, by omega, by omega⟩
      have h1 := h3.1
      unfold smallOk at h1
      have : Lib.hasPrefix (r.take m) [0] = true := by
        cases r with
        | nil => cases e
        | cons c t =>
          cases m with
          | zero => omega
          | succ m =>
            have hc : c = 0 := by simpa using e
            subst hc
            cases t <;> rfl
      rw [this] at h1
      simp at h1
    · cases h
  · cases h
theorem long_o {B k m : Nat} (hb : 128 ≤ b.toNat) (hB : B = baseN b) (hk0 : b.toNat - B = k) (hk : 55 < k) (hm : k - 55 = m) (hm8 : m ≤ 8) : (LongOk m r → sizeO (b :: r) = some (1 + m, valN (r.take m))) ∧ (¬ LongOk m r → sizeO (b :: r) = none) := by
  rw [sizeO_cons, if_neg (show ¬ b.toNat < 128 by omega), ← hB, hk0]
  constructor
  · rintro ⟨h1, h2, h3, h4, h5⟩
    rw [long_many hk hm hm8 h1 h2 h3 h4]
    simp only
    rw [if_pos (by rw [List.length_drop]; exact h5), List.length_drop]
    congr 2
    omega
  · intro hn
    cases hmm : manyL k r with
    | none => rfl
    | some q =>
      obtain ⟨n, r2⟩ := q
      obtain ⟨h1, h2, h3, h4⟩ := many_long hk hm hm8 hmm
      rw [long_many hk hm hm8 h1 h2 h3 h4] at hmm
      cases hmm
      simp only
      rw [if_neg]
      intro h5
      rw [List.length_drop] at h5
      exact hn ⟨h1, h2, h3, h4, h5⟩
set_option maxRecDepth 100000 in
set_option maxHeartbeats 2000000 in
theorem size_long (hs : s = bs (b :: r)) (hb : 128 ≤ b.toNat) (hk : 55 < b.toNat - baseN b) (hl : r.length ≤ 65536) (w : World) : Calls Tryd.prog 94 #[.string s] w (SizeP (b :: r) w) := by
  have h0 : 0 < s.size := by rw [hs, bs_size]; simp
  have hsz : (s.size : Int) - 1 = (r.length : Int) := by rw [hs, bs_size]; simp
  have hb0 : s[0] = b := by subst hs; rfl
  have hz : ((s.size : Int) == 0) = false := by rw [beq_eq_false_iff_ne]; omega
  have hb1 : ¬ (b.toNat : Int) < 128 := by omega
  have hb9 := b.toNat_lt
  have hw : wrap64 (b.toNat : Int) = (b.toNat : Int) := by unfold wrap64; omega
  by_cases h192 : 192 ≤ b.toNat
  · have hB : 192 = baseN b := by unfold baseN; rw [if_pos h192]
    rw [← hB] at hk
    have hb2 : (192 : Int) ≤ (b.toNat : Int) := by omega
    obtain ⟨k, hk0⟩ : ∃ k, b.toNat - 192 = k := ⟨_, rfl⟩
    rw [hk0] at hk
    obtain ⟨m, hm⟩ : ∃ m, k - 55 = m := ⟨_, rfl⟩
    have hm8 : m ≤ 8 := by omega
    have HO := Lib.hid (long_o (r := r) hb hB hk0 (by omega) hm hm8)
    have hsub : (b.toNat : Int) - 192 = (k : Int) := by omega
    have hk' : ¬ (k : Int) ≤ 55 := by omega
    have hsub2 : (k : Int) - 55 = (m : Int) := by omega
    have hm1 : 1 ≤ m := by omega
    clear hb hB hk h192 hk0 hm
    by_cases hc : (s.size : Int) < 1 + (m : Int)
    · have hno := HO.out.2 fun h => by have := h.1; omega
      have HN := Lib.hid hno
      clear hs hno
      go_enter Tryd.func94, Tryd.ntmps94
      go_wp2_with fail
      exact size_post 0 0 false rfl rfl rfl rfl HN.out.symm
    · have h1s : 1 < s.size := by omega
      have hr0 : ∀ (i : Nat) (hi : i < r.length) (h : 1 + i < s.size), s[1 + i] = r[i] := fun i hi h => by
        subst hs
        rw [bs_get]
        simp [Nat.add_comm 1 i]
      have hr1 : s[1] = r[0]'(by omega) := hr0 0 (by omega) (by omega)
      have hget : r[0]? = some (r[0]'(by omega)) := List.getElem?_eq_getElem (by omega)
      by_cases hz1 : ((s[1].toNat : Int) == 0) = true
      · have hno := HO.out.2 fun h => h.2.1 (by
          rw [hget]
          congr 1
          rw [← hr1]
          rw [beq_iff_eq] at hz1
          exact UInt8.toNat_inj.1 (by have : s[1].toNat = 0 := by omega
                                      rw [this]; rfl))
        have HN := Lib.hid hno
        clear hs hno hr1 hget hr0
        go_enter Tryd.func94, Tryd.ntmps94
        go_wp2_with fail
        exact size_post 0 0 false rfl rfl rfl rfl HN.out.symm
      · have hz2 : ((s[1].toNat : Int) == 0) = false := by simpa using hz1
        have H0 : Hid (r[0]? ≠ some 0) := Lib.hid fun e => by
          rw [hget, ← hr1] at e
          rw [beq_eq_false_iff_ne] at hz2
          refine hz2 ?_
          rw [Option.some.inj e]
          rfl
        have HR := Lib.hid hr0
        have hrl : m ≤ r.length := by omega
        clear hs hr1 hget hr0 hz1
        go_enter Tryd.func94, Tryd.ntmps94
        go_wp2_with fail
        go_loop [8, 9] (fun n i => ∃ j : Nat, i = .int .i64 j ∧ j ≤ m ∧ n = .int .i64 ((valN (r.take j) : Nat) : Int) ∧ valN (r.take j) < 536870912) (fun _ i => m - (intOf i).toNat)
        case atStart => exact ⟨0, rfl, by omega, rfl, by simp [valN]⟩
        case round =>
          obtain ⟨j, rfl, hj, rfl, hjb⟩ := hrel
          by_cases hlt : j < m
          · have HM := Lib.hid (valN_take_le r hj)
            have hjr : j < r.length := by omega
            have hjs : 1 + j < s.size := by omega
            have HX : Hid (valN (r.take (j + 1)) = valN (r.take j) * 256 + s[1 + j].toNat) := Lib.hid (by
              rw [HR.out j hjr hjs, List.take_succ_eq_append_getElem hjr, valN_snoc])
            have hb8 := s[1 + j].toNat_lt
            have hw8 : wrap64 (s[1 + j].toNat : Int) = (s[1 + j].toNat : Int) := by unfold wrap64; omega
            by_cases hbig : (valN (r.take j) : Int) > 1048576
            · have HNO := Lib.hid (HO.out.2 fun h => by have := h.2.2.2.1; have := HM.out; omega)
              go_wp2_with fail
              exact size_post 0 0 false rfl rfl rfl rfl HNO.out.symm
            · have hwj : IntKind.i64.wrap (1 + (j : Int)) = ((1 + j : Nat) : Int) := by rw [IntWalk.i64_in _ (by omega)]; omega
              go_wp2_with fail
              go_round
              case rel => exact ⟨j + 1, by go_num, by omega, by rw [HX.out]; congr 1, by rw [HX.out]; omega⟩
              case measure => simp [intOf]; omega
          · obtain rfl : j = m := by omega
            by_cases h55 : ((valN (r.take j) : Nat) : Int) > 55
            · go_wp2_with fail
              refine size_post (1 + j) (valN (r.take j)) (decide (((valN (r.take j) : Nat) : Int) ≤ (r.length : Int) - (j : Int))) (by simp) rfl rfl rfl ?_
              by_cases hle : ((valN (r.take j) : Nat) : Int) ≤ (r.length : Int) - (j : Int)
              · rw [if_pos (decide_eq_true hle)]
                exact (HO.out.1 ⟨hrl, H0.out, by omega, by omega, by omega⟩).symm
              · rw [if_neg (by simp only [decide_eq_true_eq]; exact hle)]
                exact (HO.out.2 fun h => hle (by have := h.2.2.2.2; omega)).symm
            · have HNO := Lib.hid (HO.out.2 fun h => h55 (by have := h.2.2.1; omega))
              go_wp2_with fail
              exact size_post (1 + j) (valN (r.take j)) false (by simp) rfl rfl rfl HNO.out.symm
  · have hB : 128 = baseN b := by unfold baseN; rw [if_neg h192]
    rw [← hB] at hk
    have hb2 : ¬ (192 : Int) ≤ (b.toNat : Int) := by omega
    obtain ⟨k, hk0⟩ : ∃ k, b.toNat - 128 = k := ⟨_, rfl⟩
    rw [hk0] at hk
    obtain ⟨m, hm⟩ : ∃ m, k - 55 = m := ⟨_, rfl⟩
    have hm8 : m ≤ 8 := by omega
    have HO := Lib.hid (long_o (r := r) hb hB hk0 (by omega) hm hm8)
    have hsub : (b.toNat : Int) - 128 = (k : Int) := by omega
    have hk' : ¬ (k : Int) ≤ 55 := by omega
    have hsub2 : (k : Int) - 55 = (m : Int) := by omega
    have hm1 : 1 ≤ m := by omega
    clear hb hB hk h192 hk0 hm
    by_cases hc : (s.size : Int) < 1 + (m : Int)
    · have hno := HO.out.2 fun h => by have := h.1; omega
      have HN := Lib.hid hno
      clear hs hno
      go_enter Tryd.func94, Tryd.ntmps94
      go_wp2_with fail
      exact size_post 0 0 false rfl rfl rfl rfl HN.out.symm
    · have h1s : 1 < s.size := by omega
      have hr0 : ∀ (i : Nat) (hi : i < r.length) (h : 1 + i < s.size), s[1 + i] = r[i] := fun i hi h => by
        subst hs
        rw [bs_get]
        simp [Nat.add_comm 1 i]
      have hr1 : s[1] = r[0]'(by omega) := hr0 0 (by omega) (by omega)
      have hget : r[0]? = some (r[0]'(by omega)) := List.getElem?_eq_getElem (by omega)
      by_cases hz1 : ((s[1].toNat : Int) == 0) = true
      · have hno := HO.out.2 fun h => h.2.1 (by
          rw [hget]
          congr 1
          rw [← hr1]
          rw [beq_iff_eq] at hz1
          exact UInt8.toNat_inj.1 (by have : s[1].toNat = 0 := by omega
                                      rw [this]; rfl))
        have HN := Lib.hid hno
        clear hs hno hr1 hget hr0
        go_enter Tryd.func94, Tryd.ntmps94
        go_wp2_with fail
        exact size_post 0 0 false rfl rfl rfl rfl HN.out.symm
      · have hz2 : ((s[1].toNat : Int) == 0) = false := by simpa using hz1
        have H0 : Hid (r[0]? ≠ some 0) := Lib.hid fun e => by
          rw [hget, ← hr1] at e
          rw [beq_eq_false_iff_ne] at hz2
          refine hz2 ?_
          rw [Option.some.inj e]
          rfl
        have HR := Lib.hid hr0
        have hrl : m ≤ r.length := by omega
        clear hs hr1 hget hr0 hz1
        go_enter Tryd.func94, Tryd.ntmps94
        go_wp2_with fail
        go_loop [8, 9] (fun n i => ∃ j : Nat, i = .int .i64 j ∧ j ≤ m ∧ n = .int .i64 ((valN (r.take j) : Nat) : Int) ∧ valN (r.take j) < 536870912) (fun _ i => m - (intOf i).toNat)
        case atStart => exact ⟨0, rfl, by omega, rfl, by simp [valN]⟩
        case round =>
          obtain ⟨j, rfl, hj, rfl, hjb⟩ := hrel
          by_cases hlt : j < m
          · have HM := Lib.hid (valN_take_le r hj)
            have hjr : j < r.length := by omega
            have hjs : 1 + j < s.size := by omega
            have HX : Hid (valN (r.take (j + 1)) = valN (r.take j) * 256 + s[1 + j].toNat) := Lib.hid (by
              rw [HR.out j hjr hjs, List.take_succ_eq_append_getElem hjr, valN_snoc])
            have hb8 := s[1 + j].toNat_lt
            have hw8 : wrap64 (s[1 + j].toNat : Int) = (s[1 + j].toNat : Int) := by unfold wrap64; omega
            by_cases hbig : (valN (r.take j) : Int) > 1048576
            · have HNO := Lib.hid (HO.out.2 fun h => by have := h.2.2.2.1; have := HM.out; omega)
              go_wp2_with fail
              exact size_post 0 0 false rfl rfl rfl rfl HNO.out.symm
            · have hwj : IntKind.i64.wrap (1 + (j : Int)) = ((1 + j : Nat) : Int) := by rw [IntWalk.i64_in _ (by omega)]; omega
              go_wp2_with fail
              go_round
              case rel => exact ⟨j + 1, by go_num, by omega, by rw [HX.out]; congr 1, by rw [HX.out]; omega⟩
              case measure => simp [intOf]; omega
          · obtain rfl : j = m := by omega
            by_cases h55 : ((valN (r.take j) : Nat) : Int) > 55
            · go_wp2_with fail
              refine size_post (1 + j) (valN (r.take j)) (decide (((valN (r.take j) : Nat) : Int) ≤ (r.length : Int) - (j : Int))) (by simp) rfl rfl rfl ?_
              by_cases hle : ((valN (r.take j) : Nat) : Int) ≤ (r.length : Int) - (j : Int)
              · rw [if_pos (decide_eq_true hle)]
                exact (HO.out.1 ⟨hrl, H0.out, by omega, by omega, by omega⟩).symm
              · rw [if_neg (by simp only [decide_eq_true_eq]; exact hle)]
                exact (HO.out.2 fun h => hle (by have := h.2.2.2.2; omega)).symm
            · have HNO := Lib.hid (HO.out.2 fun h => h55 (by have := h.2.2.1; omega))
              go_wp2_with fail
              exact size_post (1 + j) (valN (r.take j)) false (by simp) rfl rfl rfl HNO.out.symm
end
theorem size_any (l : List UInt8) (hl : l.length ≤ 65536) (w : World) : Calls Tryd.prog 94 #[.string (bs l)] w (SizeP l w) := by
  cases l with
  | nil => exact size_nil w
  | cons b r =>
    have hl' : r.length ≤ 65536 := by rw [List.length_cons] at hl; omega
    by_cases h : b.toNat < 128
    · exact size_low rfl h w
    · by_cases hk : b.toNat - baseN b ≤ 55
      · exact size_short rfl (by omega) hk hl' w
      · exact size_long rfl (by omega) (by omega) hl' w
end Go.Proofs.YtfphlkkhpccpnaaDoor

namespace Go.Proofs.YtfphlkkhpccpnaaDoor
open Go.RowKit Go.Proofs K
set_option linter.unusedVariables false

theorem manyL_drop {f n : Nat} {l r : List UInt8} (h : manyL f l = some (n, r)) : r = l.drop (l.length - r.length) := by
  unfold manyL at h
  split at h
  · cases h; simp
  · split at h
    · rename_i hl
      simp only at h
      split at h
      · cases h
        rw [List.length_drop, show l.length - (l.length - (f - 55)) = f - 55 by omega]
      · cases h
    · cases h
theorem RdI.suffix {d : Nat} {l r : List UInt8} {i : It} (h : RdI d l (some (i, r))) : r = l.drop (l.length - r.length) := by
  cases h with
  | @one _ b r hd hb => simp
  | @text _ b r r2 n hd hb hb2 hm hn ht =>
    have h1 := manyL_drop hm
    have h2 := manyL_le hm
    rw [List.length_drop, List.length_cons, show r.length + 1 - (r2.length - n) = (r.length - r2.length + n) + 1 by omega, List.drop_succ_cons, ← List.drop_drop, ← h1]
  | @list _ b r r2 n l hd hb hm hn h =>
    have h1 := manyL_drop hm
    have h2 := manyL_le hm
    rw [List.length_drop, List.length_cons, show r.length + 1 - (r2.length - n) = (r.length - r2.length + n) + 1 by omega, List.drop_succ_cons, ← List.drop_drop, ← h1]
theorem base_at (b : UInt8) : (192 ≤ b.toNat → baseN b = 192) ∧ (b.toNat < 192 → baseN b = 128) := ⟨fun h => by unfold baseN; rw [if_pos h], fun h => by unfold baseN; rw [if_neg (by omega)]⟩
theorem none_of_size {d : Nat} {l : List UInt8} (h : sizeO l = none) : RdI d l none := by
  cases l with
  | nil => exact .nil
  | cons b r =>
    rw [sizeO_cons] at h
    split at h
    · cases h
    · rename_i hb
      by_cases h192 : 192 ≤ b.toNat
      · rw [(base_at b).1 h192] at h
        split at h
        · rename_i hm; exact .manyL h192 hm
        · rename_i n r2 hm
          split at h
          · cases h
          · rename_i hn; exact .cutL h192 hm (by omega)
      · rw [(base_at b).2 (by omega)] at h
        split at h
        · rename_i hm; exact .many (by omega) (by omega) hm
        · rename_i n r2 hm
          split at h
          · cases h
          · rename_i hn; exact .cut (by omega) (by omega) hm (by omega)
/-- What a size says. -/
theorem size_some {l : List UInt8} {a n : Nat} (h : sizeO l = some (a, n)) : ∃ b r, l = b :: r ∧ ((b.toNat < 128 ∧ a = 0 ∧ n = 1) ∨ (128 ≤ b.toNat ∧ ∃ r2, manyL (b.toNat - baseN b) r = some (n, r2) ∧ n ≤ r2.length ∧ a = 1 + (r.length - r2.length) ∧ (l.drop a).take n = r2.take n ∧ l.drop (a + n) = r2.drop n ∧ a + n + (r2.drop n).length = l.length)) := by
  cases l with
  | nil => cases h
  | cons b r =>
    rw [sizeO_cons] at h
    refine ⟨b, r, rfl, ?_⟩
    split at h
    · rename_i hb
      cases h
      exact .inl ⟨hb, rfl, rfl⟩
    · rename_i hb
      split at h
      · cases h
      · rename_i n' r2 hm
        split at h
        · rename_i hn
          cases h
          have h1 := manyL_drop hm
          have h2 := manyL_le hm
          have h3 : (b :: r).drop (1 + (r.length - r2.length)) = r2 := by
            rw [Nat.add_comm, List.drop_succ_cons]
            exact h1.symm
          refine .inr ⟨by omega, r2, hm, hn, rfl, by rw [h3], by rw [← List.drop_drop, h3], ?_⟩
          rw [List.length_drop, List.length_cons]
          omega
        · cases h
theorem bs_mid (l : List UInt8) (a n : Nat) : (bs l).extract a (a + n) = bs ((l.drop a).take n) := bytes_ext (by simp [bs, List.take_drop])
def zItem : Value := .agg #[.bool false, .string ⟨#[]⟩, .slice none 0 0]
def RTakeQ (d : Nat) (l : List UInt8) (H : Hs) (w : World) (e : Ending) (w' : World) : Prop :=
  (∃ i r x y z H', RdI d l (some (i, r)) ∧ e = .returned (.tuple #[.agg #[x, y, z], .int .i64 ((l.length - r.length : Nat) : Int), .bool true]) ∧ RepL H' [x, y, z] i.d ∧ St H w none_ H' w' []) ∨
  (RdI d l none ∧ e = .returned (.tuple #[zItem, .int .i64 0, .bool false]) ∧ St H w none_ H w' [])
def RTakeOk (N : Nat) : Prop := ∀ (l : List UInt8) (d : Nat) (H : Hs) (w : World), l.length < N → l.length ≤ 65536 → d ≤ 65 → Ag H w → Calls Tryd.prog 70 #[.string (bs l), .int .i64 d] w (RTakeQ d l H w)
theorem szRItem : (Tryd.prog.info? 84).map (·.size) = some 3 := by kernel_rfl
theorem infoRItem : (Tryd.prog.info? 84).map (fun i => (i.zero, i.size, i.bytes)) = some (some (.agg #[.bool false, .string ⟨#[]⟩, .slice none 0 0]), 3, 48) := by kernel_rfl
theorem post_cell3 {H0 H : Hs} {w0 w : World} {X : Nat → Prop} {ps : List Hp} {P : Program} {fn : Func} {R : Ending → World → Prop} {a : Act} {b : Nat} {cs : Array Value} {t : TypeId} {fr : Nat × Nat} (i : Nat) (S : St H0 w0 X H w ps) (hi : ps[i]? = some (blk b (.cells cs t fr))) {p q q2 : Tmp} {ty : TypeId} (hr : fn.results = #[.cell p ty, .tmp q, .tmp q2])
    (hp : a.tmps.getD p undef = .pointer (some ⟨b, 0, none⟩)) (d : TypeDesc) (hu : P.underlying ty = some d) (hd : (match d with | .struct _ | .array _ _ => true | _ => false) = true) (hs : (P.info? ty).map (·.size) = some cs.size)
    (hdf : a.defers = []) (hR : R (.returned (.tuple #[.agg cs, a.tmps.getD q undef, a.tmps.getD q2 undef])) w) : bodyPost P fn R .ret a w := by
  refine bodyPost_ret ?_ hdf hR
  have hp' : a.tmps[p]?.getD undef = .pointer (some ⟨b, 0, none⟩) := by simpa using hp
  simp [results, hr, hp', asAddr, run_loadVar_row w b t ty cs fr d (S.blk_at i hi) hu hd hs]
section
variable {H : Hs} {w : World}
set_option maxRecDepth 100000 in
set_option maxHeartbeats 2000000 in
theorem take_none (l : List UInt8) (d : Nat) (hl : l.length ≤ 65536) (hd2 : d ≤ 65) (hw : Ag H w) (h : 64 < d ∨ sizeO l = none) : Calls Tryd.prog 70 #[.string (bs l), .int .i64 d] w (RTakeQ d l H w) := by
  have HR : Hid (RdI d l none) := Lib.hid (h.elim (fun h => .deep h) none_of_size)
  have HS := Lib.hid ((St.start hw).alloc (.cells #[.bool false, .string ⟨#[]⟩, .slice none 0 0] 84))
  have HSZ := Lib.hid (size_any l hl)
  have H1 := Lib.hid h
  clear h hw
  go_enter Tryd.func70, Tryd.ntmps70
  go_wp2_with fail
  refine (HSZ.out _).mono ?_
  rintro z w1 ⟨rfl, a, n, ok, rfl, ho⟩
  by_cases hdd : 64 < d
  · have h64 : ((d : Int) > 64) = True := eq_true (by omega)
    have hk : ∀ b : Bool, ok = b → True := fun _ _ => trivial
    cases ok
    all_goals
      go_wp2_with (first
        | (refine wpList_store_st (cs := #[.bool false, .string ⟨#[]⟩, .slice none 0 0]) 0 HS.out rfl rfl 84 (.tmp 4) (.tmp 27) rfl rfl rfl szRItem rfl (oneItem _ _ _ _ _) ?_)
        | fail)
      intro w4 S4
      go_wp2_with fail
      exact post_cell3 0 S4 rfl Tryd.results70 rfl _ Tryd.underlying84 rfl szRItem rfl (.inr ⟨HR.out, rfl, S4.drop 0⟩)
  · have hok : ok = false := by
      rcases H1.out with h | h
      · exact absurd h hdd
      · rw [h] at ho
        cases ok
        · rfl
        · cases ho
    subst hok
    go_wp2_with (first
      | (refine wpList_store_st (cs := #[.bool false, .string ⟨#[]⟩, .slice none 0 0]) 0 HS.out rfl rfl 84 (.tmp 4) (.tmp 27) rfl rfl rfl szRItem rfl (oneItem _ _ _ _ _) ?_)
      | fail)
    intro w4 S4
    go_wp2_with fail
    exact post_cell3 0 S4 rfl Tryd.results70 rfl _ Tryd.underlying84 rfl szRItem rfl (.inr ⟨HR.out, rfl, S4.drop 0⟩)
set_option maxRecDepth 100000 in
set_option maxHeartbeats 2000000 in
theorem take_text (b : UInt8) (r : List UInt8) (d : Nat) (hl : (b :: r).length ≤ 65536) (hd : d ≤ 64) (hw : Ag H w) {a n : Nat} (h : sizeO (b :: r) = some (a, n)) (hb : b.toNat < 192) : Calls Tryd.prog 70 #[.string (bs (b :: r)), .int .i64 d] w (RTakeQ d (b :: r) H w) := by
  have HS := Lib.hid ((St.start hw).alloc (.cells #[.bool false, .string ⟨#[]⟩, .slice none 0 0] 84))
  have HSZ := Lib.hid (size_any (b :: r) hl)
  obtain ⟨l, hll⟩ : ∃ l, l = b :: r := ⟨_, rfl⟩
  obtain ⟨b', r', he, hc⟩ := size_some h
  cases he
  rw [← hll] at h hl HSZ hc ⊢
  have hsz : (bs l).size = l.length := bs_size l
  have han : a + n ≤ l.length := by
    rcases hc with ⟨_, rfl, rfl⟩ | ⟨_, r2, _, _, _, _, _, h9⟩
    · rw [hll]; simp
    · omega
  have h0 : 0 < (bs l).size := by rw [hsz, hll]; simp
  have hb0 : (bs l)[0] = b := by subst hll; rfl
  have hd64 : ¬ (d : Int) > 64 := by omega
  have hlt : (b.toNat : Int) < 192 := by omega
  obtain ⟨m, hm⟩ : ∃ m, m = a + n := ⟨_, rfl⟩
  have hbody : (bs l).extract a m = bs ((l.drop a).take n) := by rw [hm]; exact bs_mid l a n
  have hsum : (a : Int) + (n : Int) = (m : Int) := by omega
  have hs1 : (a : Int) ≤ (m : Int) := by omega
  have hs2 : (m : Int) ≤ ((bs l).size : Int) := by omega
  have hw64 : wrap64 (m : Int) = (m : Int) := by unfold wrap64; omega
  have hs3 : a ≤ m := by omega
  have hs4 : m ≤ (bs l).size := by omega
  have HH := Lib.hid (And.intro h (And.intro hc hll))
  have HL := Lib.hid hl
  obtain ⟨body, hbd⟩ : ∃ body, body = (l.drop a).take n := ⟨_, rfl⟩
  rw [← hbd] at hbody
  have hbl : body.length = n := by rw [hbd, List.length_take, List.length_drop]; omega
  -- what it is
  have HBAD : Hid ((a = 1 ∧ n = 1 ∧ ∃ c, body = [c] ∧ c.toNat < 128) → RdI d l none) := Lib.hid (by
    rintro ⟨rfl, rfl, c, hcc, hc8⟩
    rcases hc with ⟨h1, h2, _⟩ | ⟨h1, r2, h2, h3, h4, h5, h6, h7⟩
    · cases h2
    · rw [(base_at b).2 hb] at h2
      have h9 : r2.length = r.length := by have := manyL_le h2; omega
      have hb9 : b.toNat = 129 := by
        by_cases h55 : b.toNat - 128 ≤ 55
        · unfold manyL at h2
          rw [if_pos h55] at h2
          simp only [Option.some.injEq, Prod.mk.injEq] at h2
          omega
        · exfalso
          have h8 := (many_long (m := b.toNat - 128 - 55) (by omega) rfl (by omega) h2).2.2.1
          have h10 := long_many (r := r) (k := b.toNat - 128) (m := b.toNat - 128 - 55) (by omega) rfl (by omega) (many_long (by omega) rfl (by omega) h2).1 (many_long (by omega) rfl (by omega) h2).2.1 h8 (many_long (by omega) rfl (by omega) h2).2.2.2
          rw [h10] at h2
          simp only [Option.some.injEq, Prod.mk.injEq] at h2
          omega
      rw [hll]
      refine .bad hb9 h2 h3 ?_ hc8
      rw [← h5, ← hbd, hcc])
  have HGOOD : Hid (¬ (a = 1 ∧ n = 1 ∧ ∃ c, body = [c] ∧ c.toNat < 128) → ∃ rest, RdI d l (some (.text (bs body), rest)) ∧ m = l.length - rest.length) := Lib.hid (by
    intro hn
    rcases hc with ⟨h1, rfl, rfl⟩ | ⟨h1, r2, h2, h3, h4, h5, h6, h7⟩
    · refine ⟨r, ?_, ?_⟩
      · have : body = [b] := by rw [hbd, hll]; rfl
        rw [this, hll]
        exact .one hd h1
      · rw [hm, hll]; simp
    · refine ⟨r2.drop n, ?_, by rw [hm]; omega⟩
      have hbr : body = r2.take n := by rw [hbd]; exact h5
      rw [hbr, hll]
      rw [(base_at b).2 hb] at h2
      refine .text hd h1 hb h2 h3 ?_
      intro c hcc hc8 h129
      refine hn ⟨?_, ?_, c, by rw [hbr, hcc], hc8⟩
      · unfold manyL at h2
        rw [h129, if_pos (by decide)] at h2
        simp only [Option.some.injEq, Prod.mk.injEq] at h2
        rw [h4, ← h2.2]; omega
      · unfold manyL at h2
        rw [h129, if_pos (by decide)] at h2
        simp only [Option.some.injEq, Prod.mk.injEq] at h2
        omega)
  obtain ⟨bd, hbds⟩ : ∃ bd : ByteArray, bd = bs body := ⟨_, rfl⟩
  rw [← hbds] at hbody
  have HBS := Lib.hid hbds
  clear h hw hl hc hll hbd hm
  go_enter Tryd.func70, Tryd.ntmps70
  go_wp2_with fail
  refine (HSZ.out _).mono ?_
  rintro z w1 ⟨rfl, a', n', ok, rfl, ho⟩
  rw [HH.out.1] at ho
  cases ok with
  | false => cases ho
  | true =>
    cases ho
    by_cases ha1 : a = 1
    · by_cases hn1 : n = 1
      · obtain ⟨c, hcb⟩ : ∃ c, body = [c] := List.length_eq_one_iff.1 (hbl.trans hn1)
        have hbd0 : 0 < bd.size := by rw [hbds, bs_size, hcb]; simp
        have hbdc : bd[0] = c := by subst hbds hcb; rfl
        by_cases hc8 : c.toNat < 128
        · have HR := Lib.hid (HBAD.out ⟨ha1, hn1, c, hcb, hc8⟩)
          have e1 : ((a : Int) == 1) = true := by rw [beq_iff_eq]; omega
          have e2 : ((n : Int) == 1) = true := by rw [beq_iff_eq]; omega
          have e3 : (c.toNat : Int) < 128 := by omega
          clear ha1 hn1 hcb hc8 hbds
          go_wp2_with (first
            | (refine wpList_store_st (cs := #[.bool false, .string ⟨#[]⟩, .slice none 0 0]) 0 HS.out rfl rfl 84 (.tmp 4) (.tmp 48) rfl rfl rfl szRItem rfl (oneItem _ _ _ _ _) ?_)
            | fail)
          intro w4 S4
          go_wp2_with fail
          exact post_cell3 0 S4 rfl Tryd.results70 rfl _ Tryd.underlying84 rfl szRItem rfl (.inr ⟨HR.out, rfl, S4.drop 0⟩)
        · have hg := HGOOD.out (fun h => by obtain ⟨_, _, c', h1, h2⟩ := h; rw [hcb] at h1; cases h1; exact hc8 h2)
          have e1 : ((a : Int) == 1) = true := by rw [beq_iff_eq]; omega
          have e2 : ((n : Int) == 1) = true := by rw [beq_iff_eq]; omega
          have e3 : ¬ (c.toNat : Int) < 128 := by omega
          have HG := Lib.hid hg
          clear ha1 hn1 hcb hc8 hbds hg
          go_wp2_with (first
            | (refine wpList_store_st (cs := #[.bool false, .string bd, .slice none 0 0]) 0 HS.out rfl rfl 84 (.tmp 4) (.tmp 50) rfl rfl rfl szRItem rfl (oneItem _ _ _ _ _) ?_)
            | fail)
          intro w4 S4
          go_wp2_with fail
          obtain ⟨rest, h1, h2⟩ := HG.out
          refine post_cell3 0 S4 rfl Tryd.results70 rfl _ Tryd.underlying84 rfl szRItem rfl (.inl ⟨_, rest, .bool false, .string bd, .slice none 0 0, H, h1, ?_, ?_, S4.drop 0⟩)
          · rw [← h2]; rfl
          · rw [← HBS.out]; unfold It.d; exact .cons (.pl rfl) (.cons (.pl rfl) (.cons (.sl (Nat.le_refl _) (fun _ => rfl) rfl (.inl rfl) .nil) .nil))
      · have hg := HGOOD.out (fun h => hn1 h.2.1)
        have e1 : ((a : Int) == 1) = true := by rw [beq_iff_eq]; omega
        have e2 : ((n : Int) == 1) = false := by rw [beq_eq_false_iff_ne]; omega
        have HG := Lib.hid hg
        clear ha1 hn1 hbds hg
        go_wp2_with (first
          | (refine wpList_store_st (cs := #[.bool false, .string bd, .slice none 0 0]) 0 HS.out rfl rfl 84 (.tmp 4) (.tmp 50) rfl rfl rfl szRItem rfl (oneItem _ _ _ _ _) ?_)
          | fail)
        intro w4 S4
        go_wp2_with fail
        obtain ⟨rest, h1, h2⟩ := HG.out
        refine post_cell3 0 S4 rfl Tryd.results70 rfl _ Tryd.underlying84 rfl szRItem rfl (.inl ⟨_, rest, .bool false, .string bd, .slice none 0 0, H, h1, ?_, ?_, S4.drop 0⟩)
        · rw [← h2]; rfl
        · rw [← HBS.out]; unfold It.d; exact .cons (.pl rfl) (.cons (.pl rfl) (.cons (.sl (Nat.le_refl _) (fun _ => rfl) rfl (.inl rfl) .nil) .nil))
    · have hg := HGOOD.out (fun h => ha1 h.1)
      have e1 : ((a : Int) == 1) = false := by rw [beq_eq_false_iff_ne]; omega
      have HG := Lib.hid hg
      clear ha1 hbds hg
      go_wp2_with (first
        | (refine wpList_store_st (cs := #[.bool false, .string bd, .slice none 0 0]) 0 HS.out rfl rfl 84 (.tmp 4) (.tmp 50) rfl rfl rfl szRItem rfl (oneItem _ _ _ _ _) ?_)
        | fail)
      intro w4 S4
      go_wp2_with fail
      obtain ⟨rest, h1, h2⟩ := HG.out
      refine post_cell3 0 S4 rfl Tryd.results70 rfl _ Tryd.underlying84 rfl szRItem rfl (.inl ⟨_, rest, .bool false, .string bd, .slice none 0 0, H, h1, ?_, ?_, S4.drop 0⟩)
      · rw [← h2]; rfl
      · rw [← HBS.out]; unfold It.d; exact .cons (.pl rfl) (.cons (.pl rfl) (.cons (.sl (Nat.le_refl _) (fun _ => rfl) rfl (.inl rfl) .nil) .nil))
end
end Go.Proofs.YtfphlkkhpccpnaaDoor

namespace Go.Proofs.YtfphlkkhpccpnaaDoor
open Go.RowKit Go.Proofs K
set_option linter.unusedVariables false

theorem wrap64_nat {m : Nat} (h : m ≤ 65536) : wrap64 (m : Int) = (m : Int) := by unfold wrap64; omega
section
variable {H : Hs} {w : World}
set_option maxRecDepth 100000 in
set_option maxHeartbeats 4000000 in
theorem take_list (N : Nat) (hN : RTakeOk N) (b : UInt8) (r : List UInt8) (d : Nat) (hr : r.length < N) (hl : (b :: r).length ≤ 65536) (hd : d ≤ 64) (hw : Ag H w) {a n : Nat} (h : sizeO (b :: r) = some (a, n)) (hb : 192 ≤ b.toNat) :
    Calls Tryd.prog 70 #[.string (bs (b :: r)), .int .i64 d] w (RTakeQ d (b :: r) H w) := by
  have HS := Lib.hid ((St.start hw).alloc (.cells #[.bool false, .string ⟨#[]⟩, .slice none 0 0] 84))
  have HSZ := Lib.hid (size_any (b :: r) hl)
  have HNN := Lib.hid hN
  obtain ⟨l, hll⟩ : ∃ l, l = b :: r := ⟨_, rfl⟩
  obtain ⟨b', r', he, hc⟩ := size_some h
  cases he
  rcases hc with ⟨h1, _⟩ | ⟨h1, r2, h2, h3, h4, h5, h6, h7⟩
  · omega
  rw [(base_at b).1 hb] at h2
  rw [← hll] at h hl HSZ h5 h6 h7 ⊢
  have hsz : (bs l).size = l.length := bs_size l
  have han : a + n ≤ l.length := by omega
  have h0 : 0 < (bs l).size := by rw [hsz, hll]; simp
  have hb0 : (bs l)[0] = b := by subst hll; rfl
  have hd64 : ¬ (d : Int) > 64 := by omega
  have hlt : ¬ (b.toNat : Int) < 192 := by omega
  have hd65 : decide ((64 : Int) < (d : Int)) = false := decide_eq_false (by omega)
  have hlt2 : decide ((b.toNat : Int) < 192) = false := decide_eq_false (by omega)
  obtain ⟨m, hm⟩ : ∃ m, m = a + n := ⟨_, rfl⟩
  obtain ⟨l1, hl1⟩ : ∃ l1, l1 = (l.drop a).take n := ⟨_, rfl⟩
  have hbody : (bs l).extract a m = bs l1 := by rw [hm, hl1]; exact bs_mid l a n
  have hsum : (a : Int) + (n : Int) = (m : Int) := by omega
  have hs1 : (a : Int) ≤ (m : Int) := by omega
  have hs2 : (m : Int) ≤ ((bs l).size : Int) := by omega
  have hm9 : m ≤ 65536 := by omega
  have hw64 : wrap64 (m : Int) = (m : Int) := wrap64_nat hm9
  have hw1 : IntKind.i64.wrap ((d : Int) + 1) = (d : Int) + 1 := IntWalk.i64_in _ (by omega)
  have hl12 : l1 = r2.take n := by rw [hl1]; exact h5
  have hl1r : l1.length ≤ r.length := by rw [hl12]; exact Nat.le_trans (List.length_take_le' ..) (manyL_le h2)
  have hl1n : l1.length < N := Nat.lt_of_le_of_lt hl1r hr
  have hrl : r.length ≤ 65536 := by rw [hll, List.length_cons] at hl; exact Nat.le_of_succ_le hl
  have hl16 : l1.length ≤ 65536 := Nat.le_trans hl1r hrl
  have HLN := Lib.hid (And.intro hl1n hl16)
  have HH := Lib.hid h
  have HLIST : Hid (∀ k, RdL (d + 1) l1 (some k) → RdI d l (some (.list k, r2.drop n))) := Lib.hid fun k hk => by rw [hll]; exact .list hd hb h2 h3 (hl12 ▸ hk)
  have HNONE : Hid (RdL (d + 1) l1 none → RdI d l none) := Lib.hid fun hk => by rw [hll]; exact .badL hb h2 h3 (hl12 ▸ hk)
  have HLEN : Hid (m = l.length - (r2.drop n).length) := Lib.hid (by rw [hm]; exact (Nat.sub_eq_of_eq_add h7.symm).symm)
  clear hN h hw hl hll h1 h2 h3 h4 h5 h6 h7 hm hl1 hl12 hl1n hl16 hr hb han hsz hl1r hrl hm9
  go_enter Tryd.func70, Tryd.ntmps70
  go_wp2_with fail
  refine (HSZ.out _).mono ?_
  rintro z w1 ⟨rfl, a', n', ok, rfl, ho⟩
  rw [HH.out] at ho
  cases ok with
  | false => cases ho
  | true =>
    cases ho
    have HS4 : Hid (St H w none_ H _ [own 84 3 (.slice none 0 0) 0 [], blk (w.heap.size + 1) (.cells #[.bool true, .string ⟨#[]⟩, .slice none 0 0] 84), blk w.heap.size (.cells #[.bool false, .string ⟨#[]⟩, .slice none 0 0] 84)]) :=
      (HS.out.alloc' (.cells #[.bool true, .string ⟨#[]⟩, .slice none 0 0] 84) (w.heap.size + 1) (by simp)).own_nil
    clear HS
    go_wp2_with fail
    rw [hw64]
    go_loopg [10] l1.length (fun k body wr => ∃ (r' : List UInt8) (l0 : List It) (A : Option Addr) (c : Nat) (cs : List Value) (H' : Hs), body = .string (bs r') ∧ r'.length ≤ k ∧ l0.length + r'.length ≤ l1.length ∧ Hid (∀ o, RdL (d + 1) r' o → RdL (d + 1) l1 (o.map (l0 ++ ·))) ∧ Hid (Le H H') ∧ Hid (RepL H' cs (itsD l0)) ∧
      Hid (St H w none_ H' wr [own 84 3 (.slice A l0.length c) l0.length cs, blk (w.heap.size + 1) (.cells #[.bool true, .string ⟨#[]⟩, .slice A l0.length c] 84), blk w.heap.size (.cells #[.bool false, .string ⟨#[]⟩, .slice none 0 0] 84)]))
    case atStart => exact ⟨l1, [], none, 0, [], H, rfl, Nat.le_refl _, by simp, fun o h => by simpa using h, Le.refl _, by unfold Hid itsD; exact .nil, HS4⟩
    case round =>
      clear HS4
      obtain ⟨r', l0, A, c, cs, H', rfl, hrk, hsum2, HRD, HLE, HREP, HS⟩ := hrel
      have cou : wr.cell? ⟨w.heap.size + 1, 2, none⟩ = some (.slice A l0.length c) := HS.out.cell 1 rfl rfl
      have hsr : ((bs r').size : Int) = (r'.length : Int) := by rw [bs_size]
      by_cases hz : r' = []
      · subst hz
        obtain ⟨H2, hle2, hrep2, S5⟩ := HS.out.keepOwn 0 rfl HREP.out
        have HS5 : Hid (St H w none_ H2 wr [blk (w.heap.size + 1) (.cells #[.bool true, .string ⟨#[]⟩, .slice A l0.length c] 84), blk w.heap.size (.cells #[.bool false, .string ⟨#[]⟩, .slice none 0 0] 84)]) := S5
        have HR2 := Lib.hid (And.intro hle2 hrep2)
        have hz0 : ((bs []).size : Int) = 0 := rfl
        clear S5 HS hle2 hrep2 cou hsr
        go_wp2_with (first
          | (refine wpList_load_st (cs := #[.bool true, .string ⟨#[]⟩, .slice A l0.length c]) 0 HS5.out rfl rfl 84 (.tmp 11) rfl rfl _ Tryd.underlying84 rfl szRItem ?_)
          | (refine wpList_store_st (cs := #[.bool true, .string ⟨#[]⟩, .slice A l0.length c]) 1 HS5.out rfl rfl 84 (.tmp 4) (.tmp 78) rfl rfl rfl szRItem rfl (oneItem _ _ _ _ _) ?_)
          | fail)
        intro w6 S6
        go_wp2_with fail
        have hL : RdL (d + 1) l1 (some l0) := by simpa using HRD.out _ .nil
        refine post_cell3 0 S6 rfl Tryd.results70 rfl _ Tryd.underlying84 rfl szRItem rfl (.inl ⟨_, r2.drop n, .bool true, .string ⟨#[]⟩, .slice A l0.length c, H2, HLIST.out l0 hL, ?_, ?_, ?_⟩)
        · rw [← HLEN.out]; rfl
        · unfold It.d; exact .cons (.pl rfl) (.cons (.pl rfl) (.cons HR2.out.2 .nil))
        · exact (S6.drop 0).drop 0
      · have HZ := Lib.hid hz
        have hpos : (r'.length : Int) > 0 := by have := List.length_pos_iff.2 hz; omega
        have HCALL : Hid (Calls Tryd.prog 70 #[.string (bs r'), .int .i64 ((d : Int) + 1)] wr (RTakeQ (d + 1) r' H' wr)) := Lib.hid (by
          have := HNN.out r' (d + 1) H' wr (by have := HLN.out.1; omega) (by have := HLN.out.2; omega) (by omega) HS.out.ag
          exact this)
        have hl0 : l0.length ≤ 65536 := by have := HLN.out.2; omega
        have hl1 : r'.length ≤ 65536 := by have := HLN.out.2; omega
        have HLE0 : Hid (Le H H) := Lib.hid (Le.refl _)
        clear hz
        go_wp2_with fail
        refine HCALL.out.mono ?_
        rintro e w5 (⟨i', r3, x, y, z, H2, hRd, rfl, hrep2, S8⟩ | ⟨hRd, rfl, S8⟩)
        · obtain ⟨p1, s1, A1, n1, c2, rfl, rfl, rfl⟩ := it_cells hrep2
          have hsh := hRd.shorter
          obtain ⟨k1, hk1⟩ : ∃ k1, r'.length - r3.length = k1 := ⟨_, rfl⟩
          rw [hk1]
          have hr3 : bs (r'.drop k1) = bs r3 := by rw [← hk1, ← hRd.suffix]
          have hex : (bs r').extract k1 (bs r').size = bs r3 := by rw [bs_drop, hr3]
          have hk2 : (k1 : Int) ≤ ((bs r').size : Int) := by rw [bs_size]; omega
          have HS2 : Hid (St H w none_ H2 w5 [own 84 3 (.slice A l0.length c) l0.length cs, blk (w.heap.size + 1) (.cells #[.bool true, .string ⟨#[]⟩, .slice A l0.length c] 84), blk w.heap.size (.cells #[.bool false, .string ⟨#[]⟩, .slice none 0 0] 84)]) := HS.out.more S8
          have HLE2 : Hid (Le H' H2) := S8.le
          have HSa := HS2.out.alloc (.cells #[.bool p1, .string s1, .slice A1 n1 c2] 84)
          have c9 := HSa.blk_at 2 rfl
          have c8 := cell_of_row _ _ 2 _ _ _ c9
          have HS3 := Lib.hid (HSa.alloc' (.cells #[.bool p1, .string s1, .slice A1 n1 c2] 84) (w5.heap.size + 1) (by simp))
          have HX := Lib.hid (And.intro hRd (And.intro hrep2 (And.intro hsh hk1)))
          obtain ⟨i0, hi0, hz0, hz1, hz2⟩ := info_parts infoRItem
          clear hRd hrep2 S8 HS cou hsh hk1 hr3 HS2 HSa c9
          go_wp2_with (first
            | (at_builtin; refine wpList_append_st 2 84 HS3.out rfl rfl _ _ 82 rfl i0 _ 48 Tryd.underlying82 hi0 hz0 hz1 hz2 rfl (by decide) rfl ⟨w5.heap.size + 1, 0, none⟩ 1 1 [.bool p1, .string s1, .slice A1 n1 c2] rfl rfl (fun j u hj => ?_) (oneItemL _ _ _ _ _) (by unfold maxLen; omega) (by omega) ?_)
            | fail)
          · rw [Addr.add_lit, Nat.zero_add, cell_of_row _ _ _ _ _ _ (HS3.out.blk_at 0 rfl)]
            simpa using hj
          intro A3 c3 w6 S10
          have HS10 := Lib.hid S10
          have d3 := S10.blk_at 3 rfl
          have d4 := cell_of_row _ _ 2 _ _ _ d3
          have d5 := frozen_of_row _ _ 2 _ _ d3
          clear S10 d3 HS3
          go_wp2_with fail
          go_roundg r3.length
          case rel =>
            have hlen : (l0 ++ [i']).length = l0.length + 1 := by simp
            obtain ⟨hRd, hrep2, hsh, hk1⟩ := HX.out
            refine ⟨r3, l0 ++ [i'], A3, c3, cs ++ [.bool p1, .string s1, .slice A1 n1 c2], H2, rfl, Nat.le_refl _, by rw [hlen]; omega, fun o h => ?_, HLE.out.trans HLE2.out, ?_, ?_⟩
            · have h2 := HRD.out _ (.step HZ.out hRd h)
              simpa [Option.map_map, Function.comp_def] using h2
            · unfold Hid
              rw [itsD_snoc]
              exact (HREP.out.le HLE2.out).append hrep2
            · rw [hlen]
              exact ((((HS10.out.setCell (j := 2) 3 rfl (.slice A3 (l0.length + 1) c3)).drop 2).drop 2).pick 1 rfl)
          case measure =>
            have hsh := HX.out.2.2.1
            omega
        · have HS2 : Hid (St H w none_ H w5 [own 84 3 (.slice A l0.length c) l0.length cs, blk (w.heap.size + 1) (.cells #[.bool true, .string ⟨#[]⟩, .slice A l0.length c] 84), blk w.heap.size (.cells #[.bool false, .string ⟨#[]⟩, .slice none 0 0] 84)]) := (HS.out.more S8).less HLE.out (Le.refl _)
          have HN := Lib.hid (HNONE.out (HRD.out _ (.bad HZ.out hRd)))
          have HS3 := Lib.hid (HS2.out.alloc (.cells #[.bool false, .string ⟨#[]⟩, .slice none 0 0] 84))
          clear S8 HS cou hRd HS2
          simp only [zItem]
          go_wp2_with (first
            | (refine wpList_store_st (cs := #[.bool false, .string ⟨#[]⟩, .slice none 0 0]) 3 HS3.out rfl rfl 84 (.tmp 4) (.tmp 68) rfl rfl rfl szRItem rfl (oneItem _ _ _ _ _) ?_)
            | fail)
          intro w6 S6
          go_wp2_with fail
          exact post_cell3 0 S6 rfl Tryd.results70 rfl _ Tryd.underlying84 rfl szRItem rfl (.inr ⟨HN.out, rfl, (((S6.drop 0).drop 0).drop 0).drop 0⟩)
end
theorem take_ok : ∀ N, RTakeOk N
  | 0 => fun l d H w h => absurd h (Nat.not_lt_zero _)
  | N + 1 => fun l d H w h hl hd hw => by
    by_cases hdd : 64 < d
    · exact take_none l d hl hd hw (.inl hdd)
    · cases hs : sizeO l with
      | none => exact take_none l d hl hd hw (.inr hs)
      | some q =>
        obtain ⟨a, n⟩ := q
        cases l with
        | nil => cases hs
        | cons b r =>
          by_cases hb : b.toNat < 192
          · exact take_text b r d hl (by omega) hw hs hb
          · exact take_list N (take_ok N) b r d (by rw [List.length_cons] at h; omega) hl (by omega) hw hs (by omega)
def RDecQ (l : List UInt8) (H : Hs) (w : World) (e : Ending) (w' : World) : Prop :=
  (∃ i x y z H', DecR l (some i) ∧ e = .returned (.tuple #[.agg #[x, y, z], .int .i64 0]) ∧ RepL H' [x, y, z] i.d ∧ St H w none_ H' w' []) ∨
  (∃ n : Int, DecR l none ∧ ((n == 0) = false) ∧ e = .returned (.tuple #[zItem, .int .i64 n]) ∧ St H w none_ H w' [])
set_option maxRecDepth 100000 in
set_option maxHeartbeats 1000000 in
theorem rdecode_any (l : List UInt8) {H : Hs} {w : World} (hw : Ag H w) : Calls Tryd.prog 44 #[.string (bs l)] w (RDecQ l H w) := by
  have HS := Lib.hid ((St.start hw).alloc (.cells #[.bool false, .string ⟨#[]⟩, .slice none 0 0] 84))
  have hsz : ((bs l).size : Int) = (l.length : Int) := by rw [bs_size]
  by_cases hl : l.length ≤ 65536
  · have hz : ¬ ((bs l).size : Int) > 65536 := by omega
    have HT := Lib.hid (take_ok (l.length + 1) l 0 H _ (Nat.lt_succ_self _) hl (by decide) HS.out.ag)
    have HL := Lib.hid hl
    clear hl hw
    go_enter Tryd.func44, Tryd.ntmps44
    go_wp2_with fail
    refine HT.out.mono ?_
    rintro e w1 (⟨i, r, x, y, z, H2, hRd, rfl, hrep, S1⟩ | ⟨hRd, rfl, S1⟩)
    · obtain ⟨p1, s1, A1, n1, c1, rfl, rfl, rfl⟩ := it_cells hrep
      have HR := Lib.hid (And.intro hRd hrep)
      have HS2 := Lib.hid ((HS.out.more S1).alloc (.cells #[.bool p1, .string s1, .slice A1 n1 c1] 84))
      have hsh := hRd.shorter
      by_cases hr : r = []
      · subst hr
        have hk : ((l.length - ([] : List UInt8).length : Nat) : Int) = (l.length : Int) := by simp
        rw [hk]
        have hne : ((l.length : Int) != (l.length : Int)) = false := by simp
        clear hRd hrep S1 HS hk hsh
        go_wp2_with (first
          | (refine wpList_load_st (cs := #[.bool p1, .string s1, .slice A1 n1 c1]) 0 HS2.out rfl rfl 84 (.tmp 4) rfl rfl _ Tryd.underlying84 rfl szRItem ?_)
          | (refine wpList_store_st (cs := #[.bool p1, .string s1, .slice A1 n1 c1]) 1 HS2.out rfl rfl 84 (.tmp 2) (.tmp 26) rfl rfl rfl szRItem rfl (oneItem _ _ _ _ _) ?_)
          | fail)
        intro w4 S4
        go_wp2_with fail
        exact post_cell2 0 S4 rfl Tryd.results44 rfl _ Tryd.underlying84 rfl szRItem rfl (.inl ⟨i, _, _, _, H2, .good HL.out HR.out.1, rfl, HR.out.2, (S4.drop 0).drop 0⟩)
      · have hpos := List.length_pos_iff.2 hr
        have hne : (((l.length - r.length : Nat) : Int) != (l.length : Int)) = true := by rw [bne_iff_ne]; omega
        have HN := Lib.hid hr
        obtain ⟨q, hq⟩ : ∃ q : Nat, l.length - r.length = q := ⟨_, rfl⟩
        rw [hq] at hne ⊢
        clear hRd hrep S1 HS hsh hr hpos hq
        go_wp2_with (first
          | (refine wpList_store_st (cs := #[.bool false, .string ⟨#[]⟩, .slice none 0 0]) 1 HS2.out rfl rfl 84 (.tmp 2) (.tmp 25) rfl rfl rfl szRItem rfl (oneItem _ _ _ _ _) ?_)
          | fail)
        intro w4 S4
        go_wp2_with fail
        exact post_cell2 0 S4 rfl Tryd.results44 rfl _ Tryd.underlying84 rfl szRItem rfl (.inr ⟨2, .more HL.out HR.out.1 HN.out, rfl, rfl, ((S4.drop 0).drop 0).less ((S4.drop 0).drop 0).le (Le.refl _)⟩)
    · have HN := Lib.hid hRd
      have HS2 := Lib.hid ((HS.out.more S1).alloc (.cells #[.bool false, .string ⟨#[]⟩, .slice none 0 0] 84))
      clear hRd S1 HS
      simp only [zItem]
      go_wp2_with (first
        | (refine wpList_store_st (cs := #[.bool false, .string ⟨#[]⟩, .slice none 0 0]) 1 HS2.out rfl rfl 84 (.tmp 2) (.tmp 25) rfl rfl rfl szRItem rfl (oneItem _ _ _ _ _) ?_)
        | fail)
      intro w4 S4
      go_wp2_with fail
      exact post_cell2 0 S4 rfl Tryd.results44 rfl _ Tryd.underlying84 rfl szRItem rfl (.inr ⟨2, .bad HL.out HN.out, rfl, rfl, (S4.drop 0).drop 0⟩)
  · have hz : ((bs l).size : Int) > 65536 := by omega
    have HL := Lib.hid (show 65536 < l.length by omega)
    clear hl hw
    go_enter Tryd.func44, Tryd.ntmps44
    go_wp2_with (first
      | (refine wpList_store_st (cs := #[.bool false, .string ⟨#[]⟩, .slice none 0 0]) 0 HS.out rfl rfl 84 (.tmp 2) (.tmp 10) rfl rfl rfl szRItem rfl (oneItem _ _ _ _ _) ?_)
      | fail)
    intro w4 S4
    go_wp2_with fail
    exact post_cell2 0 S4 rfl Tryd.results44 rfl _ Tryd.underlying84 rfl szRItem rfl (.inr ⟨3, .long HL.out, rfl, rfl, S4.drop 0⟩)
end Go.Proofs.YtfphlkkhpccpnaaDoor
