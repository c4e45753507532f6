/-
  The document's own sum is the program's.
  The document's own numbers' bytes, and what stands ahead.
  The document's own reading of a small number.
-/
import Derived.Test.YtdnpobjokajigaaGreatDoorPart17
import Derived.Test.YtdnpobjokajigaaGreatDoorPart11
namespace Go.Proofs.YtdnpobjokajigaaGreatDoor
open Go.RowKit Go.Proofs K
set_option linter.unusedVariables false
set_option maxRecDepth 100000

def stepN (x y : Nat) : Nat := if (x ^^^ y) % 2 = 1 then x / 2 ^^^ 3988292384 else x / 2
theorem xor32 {a b : Nat} (ha : a < 4294967296) (hb : b < 4294967296) : a ^^^ b < 4294967296 := Nat.xor_lt_two_pow (n := 32) ha hb
theorem stepN_bd {x : Nat} (hx : x < 4294967296) (y : Nat) : stepN x y < 4294967296 := by
  unfold stepN
  split
  · exact xor32 (by omega) (by decide)
  · omega
def RetE (v : Value) (w : World) (e : Ending) (w' : World) : Prop := e = .returned v ∧ w' = w
set_option maxRecDepth 100000 in
theorem step_any (x y : Nat) (hx : x < 4294967296) (hy : y < 4294967296) (w : World) : Calls Tryz.prog 226 #[.int .u32 x, .int .u32 y] w (RetE (.int .u32 (stepN x y)) w) := by
  have h1 := bx32 x y hx hy
  have h2 : bits .xor .u32 ((x : Int) / 2) 3988292384 = ((x / 2 ^^^ 3988292384 : Nat) : Int) := by
    have := bx32 (x / 2) 3988292384 (by omega) (by decide)
    rw [← this]
    rfl
  by_cases h : (x ^^^ y) % 2 = 1
  · have e1 : (((x ^^^ y : Nat) : Int) % 2 == 1) = true := by rw [beq_iff_eq]; omega
    have e2 : stepN x y = x / 2 ^^^ 3988292384 := by unfold stepN; rw [if_pos h]
    have HE := Lib.hid e2
    clear e2 h
    go_enter Tryz.func226, Tryz.ntmps226
    go_wp2_with fail
    go_ret
    exact ⟨by rw [HE.out]; rfl, rfl⟩
  · have e1 : (((x ^^^ y : Nat) : Int) % 2 == 1) = false := by rw [beq_eq_false_iff_ne]; omega
    have e2 : stepN x y = x / 2 := by unfold stepN; rw [if_neg h]
    have HE := Lib.hid e2
    clear e2 h
    go_enter Tryz.func226, Tryz.ntmps226
    go_wp2_with fail
    go_ret
    exact ⟨by rw [HE.out]; rfl, rfl⟩
/-- Eight steps are a byte's. -/
def stepsN : Nat → Nat → Nat → Nat
  | 0, x, _ => x
  | m + 1, x, b => stepN (stepsN m x b) (b / 2 ^ m)
theorem stepsN_bd {x : Nat} (hx : x < 4294967296) (b : Nat) : ∀ m, stepsN m x b < 4294967296
  | 0 => hx
  | m + 1 => stepN_bd (stepsN_bd hx b m) _
def cstN (x : Nat) : Nat := if x % 2 = 1 then x / 2 ^^^ 3988292384 else x / 2
def cstsN : Nat → Nat → Nat
  | 0, x => x
  | m + 1, x => cstN (cstsN m x)
theorem cstN_bd {x : Nat} (hx : x < 4294967296) : cstN x < 4294967296 := by
  unfold cstN
  split
  · exact xor32 (by omega) (by decide)
  · omega
theorem cstsN_bd {x : Nat} (hx : x < 4294967296) : ∀ m, cstsN m x < 4294967296
  | 0 => hx
  | m + 1 => cstN_bd (cstsN_bd hx m)
theorem bits_and1 (x : Nat) (hx : x < 4294967296) : bits .and .u32 (x : Int) 1 = ((x % 2 : Nat) : Int) := by
  have h1 : (BitVec.ofInt 32 (x : Int)).toNat = x := by
    rw [BitVec.ofInt_natCast, BitVec.toNat_ofNat]; exact Nat.mod_eq_of_lt (by omega)
  have h2 : (BitVec.ofInt 32 (1 : Int)).toNat = 1 := rfl
  show IntKind.u32.wrap ((BitVec.ofInt 32 (x : Int) &&& BitVec.ofInt 32 (1 : Int)).toNat : Int) = _
  rw [BitVec.toNat_and, h1, h2, Nat.and_one_is_mod]
  simp [IntKind.wrap, IntKind.bits, IntKind.signed]
  omega
theorem cstep_nat {x : Nat} (hx : x < 4294967296) : cstep (x : Int) = (cstN x : Int) := by
  unfold cstep cstN
  rw [bits_and1 x hx]
  split
  · rename_i h
    rw [h]
    have := bx32 (x / 2) 3988292384 (by omega) (by decide)
    rw [← this]
    rfl
  · rename_i h
    have h0 : x % 2 = 0 := by omega
    rw [h0]
    have := bx32 (x / 2) 0 (by omega) (by decide)
    rw [Nat.xor_zero] at this
    rw [← this]
    rfl
theorem csteps_nat {x : Nat} (hx : x < 4294967296) : ∀ m, csteps m (x : Int) = (cstsN m x : Int)
  | 0 => rfl
  | m + 1 => by
    show cstep (csteps m (x : Int)) = _
    rw [csteps_nat hx m]
    exact cstep_nat (cstsN_bd hx m)
theorem xor_div2 (a b : Nat) : (a ^^^ b) / 2 = a / 2 ^^^ b / 2 := by
  have h := Nat.shiftRight_xor_distrib (a := a) (b := b) (i := 1)
  simpa [Nat.shiftRight_eq_div_pow] using h
theorem xor_mod2 (a b : Nat) : (a ^^^ b) % 2 = (a % 2 + b % 2) % 2 := by
  have h := Nat.xor_mod_two_pow (a := a) (b := b) (n := 1)
  rw [Nat.pow_one] at h
  rw [h]
  rcases Nat.mod_two_eq_zero_or_one a with ha | ha <;> rcases Nat.mod_two_eq_zero_or_one b with hb | hb <;> rw [ha, hb] <;> rfl
theorem step_rel (x y : Nat) : stepN x y ^^^ y / 2 = cstN (x ^^^ y) := by
  unfold stepN cstN
  rw [xor_div2]
  split
  · rw [Nat.xor_assoc, Nat.xor_comm 3988292384, ← Nat.xor_assoc]
  · rfl
theorem steps_rel (x b : Nat) : ∀ m, stepsN m x b ^^^ b / 2 ^ m = cstsN m (x ^^^ b)
  | 0 => by simp [stepsN, cstsN]
  | m + 1 => by
    show stepN (stepsN m x b) (b / 2 ^ m) ^^^ b / 2 ^ (m + 1) = cstN (cstsN m (x ^^^ b))
    rw [← steps_rel x b m, Nat.pow_succ, ← Nat.div_div_eq_div_mul]
    exact step_rel _ _
theorem cstN_lin (u v : Nat) : cstN (u ^^^ v) = cstN u ^^^ cstN v := by
  unfold cstN
  have h := xor_mod2 u v
  rw [xor_div2]
  rcases Nat.mod_two_eq_zero_or_one u with hu | hu <;> rcases Nat.mod_two_eq_zero_or_one v with hv | hv
  · rw [if_neg (by omega), if_neg (by omega), if_neg (by omega)]
  · rw [if_pos (by omega), if_neg (by omega), if_pos (by omega), Nat.xor_assoc]
  · rw [if_pos (by omega), if_pos (by omega), if_neg (by omega), Nat.xor_assoc, Nat.xor_assoc, Nat.xor_comm (v / 2)]
  · rw [if_neg (by omega), if_pos (by omega), if_pos (by omega)]
    have : u / 2 ^^^ 3988292384 ^^^ (v / 2 ^^^ 3988292384) = u / 2 ^^^ v / 2 ^^^ (3988292384 ^^^ 3988292384) := by
      rw [Nat.xor_assoc, Nat.xor_comm (v / 2), ← Nat.xor_assoc 3988292384, Nat.xor_self, Nat.zero_xor, Nat.xor_zero]
    rw [this, Nat.xor_self, Nat.xor_zero]
theorem cstsN_lin (u v : Nat) : ∀ m, cstsN m (u ^^^ v) = cstsN m u ^^^ cstsN m v
  | 0 => rfl
  | m + 1 => by
    show cstN (cstsN m (u ^^^ v)) = _
    rw [cstsN_lin u v m]
    exact cstN_lin _ _
theorem cstsN_high (h : Nat) : ∀ (m k : Nat), cstsN m (h * 2 ^ (m + k)) = h * 2 ^ k
  | 0, k => by simp [cstsN]
  | m + 1, k => by
    show cstN (cstsN m (h * 2 ^ (m + 1 + k))) = _
    rw [show m + 1 + k = m + (k + 1) by omega, cstsN_high h m (k + 1)]
    unfold cstN
    rw [show h * 2 ^ (k + 1) = h * 2 ^ k * 2 by rw [Nat.pow_succ, Nat.mul_assoc]]
    rw [if_neg (by omega)]
    omega
theorem split8 (x : Nat) : x = (x / 256 * 256) ^^^ (x % 256) := by
  have h : x / 256 * 256 + x % 256 = x := by omega
  have := Nat.two_pow_add_eq_or_of_lt (b := x % 256) (i := 8) (by omega) (x / 256)
  have h2 : (x / 256 * 256) &&& (x % 256) = 0 := by
    apply Nat.eq_of_testBit_eq
    intro i
    rw [Nat.testBit_and, Nat.zero_testBit]
    by_cases hi : i < 8
    · rw [show x / 256 * 256 = 2 ^ 8 * (x / 256) by omega, Nat.testBit_two_pow_mul]
      simp [show ¬ 8 ≤ i by omega]
    · rw [Nat.testBit_lt_two_pow (x := x % 256) (i := i) (Nat.lt_of_lt_of_le (show x % 256 < 2 ^ 8 by omega) (Nat.pow_le_pow_right (by decide) (by omega))), Bool.and_false]
  have h3 : (x / 256 * 256) ^^^ (x % 256) = (x / 256 * 256) ||| (x % 256) := by
    apply Nat.eq_of_testBit_eq
    intro i
    have h4 := congrArg (fun n => n.testBit i) h2
    simp only [Nat.testBit_and, Nat.zero_testBit] at h4
    rw [Nat.testBit_xor, Nat.testBit_or]
    revert h4
    cases (x / 256 * 256).testBit i <;> cases (x % 256).testBit i <;> simp
  rw [h3, show x / 256 * 256 = 2 ^ 8 * (x / 256) by omega, ← this]
  omega
theorem steps_byte {x b : Nat} (hx : x < 4294967296) (hb : b < 256) : stepsN 8 x b = cbN x b := by
  have h1 := steps_rel x b 8
  rw [show b / 2 ^ 8 = 0 by omega, Nat.xor_zero] at h1
  rw [h1]
  have hxb : (x ^^^ b) / 256 = x / 256 := by
    have h := Nat.shiftRight_xor_distrib (a := x) (b := b) (i := 8)
    simp only [Nat.shiftRight_eq_div_pow] at h
    rw [show (256 : Nat) = 2 ^ 8 from rfl, h, show b / 2 ^ 8 = 0 by omega, Nat.xor_zero]
  have hxm : (x ^^^ b) % 256 = x % 256 ^^^ b := by
    have h := Nat.xor_mod_two_pow (a := x) (b := b) (n := 8)
    rw [show (256 : Nat) = 2 ^ 8 from rfl, h, Nat.mod_eq_of_lt (a := b) (by omega)]
  have hs := split8 (x ^^^ b)
  rw [hxb, hxm] at hs
  have hh := cstsN_high (x / 256) 8 0
  rw [show 8 + 0 = 8 from rfl, show (2 : Nat) ^ 8 = 256 from rfl, show (2 : Nat) ^ 0 = 1 from rfl, Nat.mul_one] at hh
  rw [hs, cstsN_lin, hh]
  unfold cbN tabN
  rw [csteps_nat (show x % 256 ^^^ b < 4294967296 from Nat.lt_of_lt_of_le (xor256 (by omega) hb) (by decide)), Int.toNat_natCast]
def moreN (t : Nat) (l : List UInt8) : Nat := cmN t l
theorem cmN_snoc (t : Nat) (s : ByteArray) {k : Nat} (h : k < s.size) : cmN t (s.data.toList.take (k + 1)) = cbN (cmN t (s.data.toList.take k)) (s[k].toNat) := by
  unfold cmN
  rw [List.take_succ_eq_append_getElem (by simpa using h), List.foldl_append]
  rfl
set_option maxRecDepth 100000 in
set_option maxHeartbeats 1000000 in
theorem rmore_any (s : ByteArray) (hs : s.size ≤ 140737488355328) (w : World) : Calls Tryz.prog 185 #[.int .u32 0, .string s] w (RetE (.int .u32 (crcI 0 s)) w) := by
  have HC := Lib.hid (crcI_nat s)
  have h0 : bits .xor .u32 IntKind.u32.max 0 = ((4294967295 : Nat) : Int) := (cnot_nat (x := 0) (by decide)).trans (by rfl)
  go_enter Tryz.func185, Tryz.ntmps185
  go_wp2_with fail
  go_loop [0, 5] (fun x i => ∃ k : Nat, i = .int .i64 k ∧ k ≤ s.size ∧ x = .int .u32 ((cmN 4294967295 (s.data.toList.take k) : Nat) : Int)) (fun _ i => s.size - (intOf i).toNat)
  case atStart => exact ⟨0, rfl, by omega, rfl⟩
  case round =>
    obtain ⟨k, rfl, hk, rfl⟩ := hrel
    by_cases hlt : k < s.size
    · have HX := Lib.hid (cmN_snoc 4294967295 s hlt)
      have hx0 : cmN 4294967295 (s.data.toList.take k) < 4294967296 := cmN_bd (by decide)
      generalize cmN 4294967295 (s.data.toList.take k) = x0 at *
      have hb0 : s[k].toNat < 256 := s[k].toNat_lt
      go_wp2_with fail
      go_loop [0, 6] (fun x j => ∃ m : Nat, j = .int .i64 m ∧ m ≤ 8 ∧ x = .int .u32 ((stepsN m x0 (s[k].toNat) : Nat) : Int)) (fun _ j => 8 - (intOf j).toNat)
      case atStart => exact ⟨0, rfl, by omega, rfl⟩
      case round =>
        obtain ⟨m, rfl, hm, rfl⟩ := hrel
        by_cases hlt2 : m < 8
        · have hd : s[k].toNat / 2 ^ m < 4294967296 := Nat.lt_of_le_of_lt (Nat.div_le_self _ _) (by omega)
          have HST := Lib.hid (step_any (stepsN m x0 (s[k].toNat)) (s[k].toNat / 2 ^ m) (stepsN_bd hx0 _ m) hd)
          have hdi : ((s[k].toNat : Int) / 2 ^ m % 4294967296) = ((s[k].toNat / 2 ^ m : Nat) : Int) := by
            have e : ((s[k].toNat / 2 ^ m : Nat) : Int) = (s[k].toNat : Int) / 2 ^ m := by rw [Int.natCast_ediv, Int.natCast_pow]; rfl
            rw [← e]
            exact Int.emod_eq_of_lt (Int.natCast_nonneg _) (Int.ofNat_lt.2 hd)
          have HD := Lib.hid hdi
          clear hdi
          go_wp2_with fail
          rw [HD.out]
          refine (HST.out _).mono ?_
          rintro z w1 ⟨rfl, rfl⟩
          go_wp2_with fail
          go_round
          case rel => exact ⟨m + 1, by go_num, by omega, rfl⟩
          case measure => simp [intOf]; omega
        · obtain rfl : m = 8 := by omega
          have HY := Lib.hid (steps_byte hx0 hb0)
          go_wp2_with fail
          go_round
          case rel => exact ⟨k + 1, by go_num, by omega, by rw [HX.out, ← HY.out]⟩
          case measure => simp [intOf]; omega
    · obtain rfl : k = s.size := by omega
      have hfull : s.data.toList.take s.size = s.data.toList := List.take_of_length_le (by simp)
      have hx0 : cmN 4294967295 s.data.toList < 4294967296 := cmN_bd (by decide)
      have hx := bx32 4294967295 (cmN 4294967295 s.data.toList) (by decide) hx0
      have hx' : bits .xor .u32 IntKind.u32.max ((cmN 4294967295 s.data.toList : Nat) : Int) = ((4294967295 ^^^ cmN 4294967295 s.data.toList : Nat) : Int) := hx
      rw [hfull]
      go_wp2_with fail
      go_ret
      exact ⟨by rw [HC.out]; rfl, rfl⟩
theorem rsum_any (s : ByteArray) (hs : s.size ≤ 140737488355328) (w : World) : Calls Tryz.prog 147 #[.string s] w (RetE (.int .u32 (crcI 0 s)) w) := by
  have HM := Lib.hid (rmore_any s hs)
  go_enter Tryz.func147, Tryz.ntmps147
  go_wp2_with fail
  refine (HM.out _).mono ?_
  rintro z w1 ⟨rfl, rfl⟩
  go_wp2_with fail
  go_ret
  exact ⟨rfl, rfl⟩
end Go.Proofs.YtdnpobjokajigaaGreatDoor

namespace Go.Proofs.YtdnpobjokajigaaGreatDoor
open Go.RowKit Go.Proofs K
set_option linter.unusedVariables false

def bytesN (n : Nat) : List UInt8 := if h : n = 0 then [] else bytesN (n / 256) ++ [UInt8.ofNat (n % 256)]
theorem bytesN_zero : bytesN 0 = [] := by unfold bytesN; rfl
theorem bytesN_pos {n : Nat} (h : 0 < n) : bytesN n = bytesN (n / 256) ++ [UInt8.ofNat (n % 256)] := by
  conv => lhs; unfold bytesN
  rw [dif_neg (by omega)]
theorem valN_snoc (l : List UInt8) (b : UInt8) : valN (l ++ [b]) = valN l * 256 + b.toNat := by unfold valN; rw [List.foldl_append]; rfl
def Clean (l : List UInt8) : Prop := ∀ b r, l = b :: r → b ≠ 0
theorem valN_pos : ∀ {l : List UInt8}, Clean l → l ≠ [] → 0 < valN l := by
  intro l
  induction hn : l.length using Nat.strongRecOn generalizing l with
  | ind n ih =>
    intro hc hl
    rcases List.eq_nil_or_concat l with h | ⟨l', b, h⟩
    · exact absurd h hl
    · rw [List.concat_eq_append] at h
      subst h
      rw [valN_snoc]
      by_cases h' : l' = []
      · subst h'
        have hb := hc b [] rfl
        have : b.toNat ≠ 0 := fun h0 => hb (UInt8.toNat_inj.1 (by simpa using h0))
        omega
      · have := ih l'.length (by rw [← hn]; simp) rfl (fun c r e => hc c (r ++ [b]) (by rw [e]; rfl)) h'
        omega
theorem bytesN_val : ∀ (n : Nat) (l : List UInt8), l.length ≤ n → Clean l → bytesN (valN l) = l := by
  intro n
  induction n with
  | zero =>
    intro l hl _
    obtain rfl := List.eq_nil_of_length_eq_zero (l := l) (by omega)
    exact bytesN_zero
  | succ n ih =>
    intro l hl hc
    rcases List.eq_nil_or_concat l with h | ⟨l', b, h⟩
    · subst h; exact bytesN_zero
    · rw [List.concat_eq_append] at h
      subst h
      have hb := b.toNat_lt
      have hc' : Clean l' := fun c r e => hc c (r ++ [b]) (by rw [e]; rfl)
      have hp := valN_pos hc (by simp)
      rw [valN_snoc] at hp ⊢
      rw [bytesN_pos hp, show (valN l' * 256 + b.toNat) / 256 = valN l' by omega, show (valN l' * 256 + b.toNat) % 256 = b.toNat by omega, ih l' (by rw [List.length_append, List.length_singleton] at hl; omega) hc']
      congr 2
      exact UInt8.toNat_inj.1 (by simp)
theorem clean_of {l : List UInt8} (h : Lib.hasPrefix l [0] = false) : Clean l := fun b r e hb => by
  subst e hb
  have : Lib.hasPrefix (0 :: r) [0] = true := by cases r <;> rfl
  rw [this] at h
  cases h
theorem bytesN_num {n : Nat} (h : n < 18446744073709551616) : bytesN n = numL (n : Int) := by
  have := bytesN_val _ (numL (n : Int)) (Nat.le_refl _) (clean_of dropWhile_head)
  rw [valN_num h] at this
  exact this
set_option maxRecDepth 100000 in
theorem rbytes_any (n : Nat) (hn : n < 18446744073709551616) (w : World) : Calls Tryz.prog 182 #[.int .u64 n] w (RetV (.string (numS n)) w) := by
  have HB := Lib.hid (bytesN_num hn)
  have hlen : (bytesN n).length ≤ 8 := by rw [HB.out]; exact numL_len _
  go_enter Tryz.func182, Tryz.ntmps182
  go_wp2_with fail
  go_loopw [0, 3] (fun x s wr => ∃ (m : Nat) (l : List UInt8), x = .int .u64 m ∧ m ≤ n ∧ s = .string (bs l) ∧ Hid (bytesN n = bytesN m ++ l) ∧ Hid (Below w.heap.size w wr)) (fun x _ _ => (intOf x).toNat)
  case atStart => exact ⟨n, [], rfl, Nat.le_refl _, rfl, Lib.hid (by simp), Lib.hid (Below.refl _ _)⟩
  case round =>
    obtain ⟨m, l, rfl, hm, rfl, HL, HW⟩ := hrel
    by_cases h0 : 0 < m
    · have hl8 : l.length ≤ 8 := by
        have := congrArg List.length HL.out
        rw [List.length_append] at this
        omega
      have hconv := run_convert_bytes_arg (wr.alloc (.cells #[.int .u8 ((m : Int) % 256)] 5)) 144 5 Tryz.underlying144 Tryz.underlying5 wr.heap.size 0 1 1 [(m : Int) % 256] rfl (fun i hi => by
        rw [cell_of_row _ _ _ _ _ _ (heap_alloc_new wr _)]
        rcases (by omega : i = 0) with e; rw [e]; rfl) 9 Tryz.underlying9
      have hcat : (strOfNums [(m : Int) % 256]).size + (bs l).size ≤ 9223372036854775807 := by rw [bs_size, show (strOfNums [(m : Int) % 256]).size = 1 from rfl]; omega
      have hcatF : (9223372036854775807 < (strOfNums [(m : Int) % 256]).size + (bs l).size) = False := eq_false (by omega)
      go_wp2_with fail
      go_roundw
      case rel =>
        refine ⟨m / 256, UInt8.ofNat (m % 256) :: l, by go_num, by omega, ?_, Lib.hid ?_, Lib.hid (HW.out.alloc HW.out.size _)⟩
        · have e : ((m : Int) % 256).toNat = m % 256 := by omega
          exact congrArg Value.string (bytes_ext (by rw [data_append, strOfNums_data]; simp only [List.map_cons, List.map_nil, e]; rfl))
        · rw [HL.out, bytesN_pos h0, List.append_assoc]; rfl
      case measure => simp [intOf]; omega
    · obtain rfl : m = 0 := by omega
      have hfin : l = numL n := by
        have := HL.out
        rw [bytesN_zero, List.nil_append, HB.out] at this
        exact this.symm
      have HF := Lib.hid hfin
      clear hfin
      go_wp2_with fail
      go_ret
      exact ⟨by rw [HF.out]; rfl, HW.out⟩
set_option maxRecDepth 100000 in
theorem rhead_any (base n : Nat) (hb : base ≤ 192) (hn : n ≤ 140737488355328) (w : World) : Calls Tryz.prog 184 #[.int .i64 base, .int .i64 n] w (RetV (.string (aheadS base n)) w) := by
  by_cases h : n ≤ 55
  · have hconv := run_convert_bytes_arg (w.alloc (.cells #[.int .u8 ((base : Int) + n)] 5)) 144 5 Tryz.underlying144 Tryz.underlying5 w.heap.size 0 1 1 [(base : Int) + n] rfl (fun i hi => by
      rw [cell_of_row _ _ _ _ _ _ (heap_alloc_new w _)]
      obtain rfl : i = 0 := by omega
      rfl) 9 Tryz.underlying9
    go_enter Tryz.func184, Tryz.ntmps184
    go_wp2
    go_ret
    refine ⟨?_, (Below.refl _ _).alloc (Nat.le_refl _) _⟩
    rw [aheadS, aheadL, if_pos h]
    rfl
  · go_enter Tryz.func184, Tryz.ntmps184
    go_wp2_with fail
    refine (rbytes_any n (by omega) _).mono ?_
    rintro e w1 ⟨rfl, hb1⟩
    have hl := numL_len (n : Int)
    have hsz : (numS (n : Int)).size = (numL (n : Int)).length := by simp [numS, ByteArray.size]
    have hs8 : (numS (n : Int)).size ≤ 8 := by omega
    have hconv := run_convert_bytes_arg (w1.alloc (.cells #[.int .u8 ((base : Int) + 55 + (numS (n : Int)).size)] 5)) 144 5 Tryz.underlying144 Tryz.underlying5 w1.heap.size 0 1 1 [(base : Int) + 55 + (numS (n : Int)).size] rfl (fun i hi => by
      rw [cell_of_row _ _ _ _ _ _ (heap_alloc_new w1 _)]
      obtain rfl : i = 0 := by omega
      rfl) 9 Tryz.underlying9
    have hcat : (strOfNums [(base : Int) + 55 + (numS (n : Int)).size]).size + (numS (n : Int)).size ≤ 9223372036854775807 := by rw [strOfNums_size]; simp; omega
    have hcatF : (9223372036854775807 < (strOfNums [(base : Int) + 55 + (numS (n : Int)).size]).size + (numS (n : Int)).size) = False := eq_false (by omega)
    have HZ := Lib.hid hsz
    clear hsz
    go_wp2_with fail
    go_ret
    refine ⟨?_, hb1.alloc hb1.size _⟩
    rw [HZ.out, cat_one, aheadS, aheadL, if_neg h]
    congr 6
theorem rhead128 (n : Nat) (hn : n ≤ 140737488355328) (w : World) : Calls Tryz.prog 184 #[.int .i64 128, .int .i64 n] w (RetV (.string (aheadS 128 n)) w) := rhead_any 128 n (by decide) hn w
theorem rhead192 (n : Nat) (hn : n ≤ 140737488355328) (w : World) : Calls Tryz.prog 184 #[.int .i64 192, .int .i64 n] w (RetV (.string (aheadS 192 n)) w) := rhead_any 192 n (by decide) hn w
end Go.Proofs.YtdnpobjokajigaaGreatDoor

namespace Go.Proofs.YtdnpobjokajigaaGreatDoor
open Go.RowKit Go.Proofs K
set_option linter.unusedVariables false

theorem valN_take (s : ByteArray) {k : Nat} (h : k < s.size) : valN (s.data.toList.take (k + 1)) = valN (s.data.toList.take k) * 256 + s[k].toNat := by
  rw [List.take_succ_eq_append_getElem (by simpa using h), valN_snoc]
  rfl
theorem prefix0 (s : ByteArray) : Lib.hasPrefix s.data.toList [0] = if h : 0 < s.size then decide (s[0].toNat = 0) else false := by
  obtain ⟨⟨l⟩⟩ := s
  cases l with
  | nil => rfl
  | cons b l =>
    rw [dif_pos (show 0 < (⟨⟨b :: l⟩⟩ : ByteArray).size by simp [ByteArray.size])]
    show ((0 : UInt8) == b && List.isPrefixOf [] l) = decide (b.toNat = 0)
    rw [Bool.eq_iff_iff]
    simp
    exact ⟨fun h => by rw [← h]; rfl, fun h => (UInt8.toNat_inj.1 (by rw [h]; rfl)).symm⟩
set_option maxRecDepth 100000 in
set_option maxHeartbeats 2000000 in
theorem rsmall_text (s : ByteArray) (A : Option Addr) (n c : Nat) (hs : s.size ≤ 140737488355328) (w : World) : Calls Tryz.prog 140 #[.agg #[.bool false, .string s, .slice A n c]] w (RetV (.tuple #[.int .u64 (smallR s), .bool (smallOk s)]) w) := by
  have HP := Lib.hid (prefix0 s)
  by_cases h8 : s.size ≤ 8
  · have l8 : ((s.size : Int) > 8) = False := eq_false (by omega)
    by_cases h0 : 0 < s.size
    · by_cases hz : s[0].toNat = 0
      · have HR : Hid (smallR s = 0 ∧ smallOk s = false) := Lib.hid (by
          have : smallOk s = false := by unfold smallOk; rw [HP.out, dif_pos h0, hz]; simp
          exact ⟨by unfold smallR; rw [this]; rfl, this⟩)
        have e1 : ((s[0].toNat : Int) == 0) = true := by rw [beq_iff_eq]; omega
        clear hz
        go_enter Tryz.func140, Tryz.ntmps140
        go_wp2_with fail
        go_ret2
        exact ⟨by rw [HR.out.1, HR.out.2]; rfl, (Below.refl _ _).alloc (Nat.le_refl _) _⟩
      · have HR : Hid (smallR s = (valN s.data.toList : Int) ∧ smallOk s = true) := Lib.hid (by
          have : smallOk s = true := by unfold smallOk; rw [HP.out, dif_pos h0]; simp [h8, hz]
          exact ⟨by unfold smallR; rw [this, if_pos rfl]; exact smallV_val (by simpa using h8), this⟩)
        have e1 : ((s[0].toNat : Int) == 0) = false := by rw [beq_eq_false_iff_ne]; omega
        clear hz
        go_enter Tryz.func140, Tryz.ntmps140
        go_wp2_with fail
        go_loopw [4, 5] (fun x i wr => ∃ k : Nat, i = .int .i64 k ∧ k ≤ s.size ∧ x = .int .u64 ((valN (s.data.toList.take k) : Nat) : Int) ∧ Hid (Below w.heap.size w wr) ∧ wr.cell? ⟨w.heap.size, 1, none⟩ = some (.string s)) (fun _ i _ => s.size - (intOf i).toNat)
        case atStart => exact ⟨0, rfl, by omega, rfl, (Below.refl _ _).alloc (Nat.le_refl _) _, by rw [cell_of_row _ _ _ _ _ _ (heap_alloc_new w _)]; rfl⟩
        case round =>
          obtain ⟨k, rfl, hk, rfl, HW, hcl⟩ := hrel
          by_cases hlt : k < s.size
          · have HX := Lib.hid (valN_take s hlt)
            have hb := s[k].toNat_lt
            have hv : valN (s.data.toList.take k) < 256 ^ 7 := by
              have h1 := valN_lt (l := s.data.toList.take k) (by rw [List.length_take]; omega)
              exact Nat.lt_of_lt_of_le h1 (Nat.pow_le_pow_right (by decide) (by rw [List.length_take]; omega))
            go_wp2_with fail
            go_roundw
            case rel => exact ⟨k + 1, by go_num, by omega, by rw [HX.out]; congr 1, HW, hcl⟩
            case measure => simp [intOf]; omega
          · obtain rfl : k = s.size := by omega
            have hfull : s.data.toList.take s.size = s.data.toList := List.take_of_length_le (by simp)
            rw [hfull]
            go_wp2_with fail
            go_ret2
            exact ⟨by rw [HR.out.1, HR.out.2]; rfl, HW.out⟩
    · have hs0 : s = ⟨#[]⟩ := by
        obtain ⟨⟨l⟩⟩ := s
        cases l with
        | nil => rfl
        | cons => simp [ByteArray.size] at h0
      subst hs0
      clear h0 h8 l8 hs HP
      go_enter Tryz.func140, Tryz.ntmps140
      go_wp2_with fail
      go_loopw [4, 5] (fun x i wr => i = .int .i64 0 ∧ x = .int .u64 0 ∧ Hid (Below w.heap.size w wr) ∧ wr.cell? ⟨w.heap.size, 1, none⟩ = some (.string ⟨#[]⟩)) (fun _ _ _ => 0)
      case atStart => exact ⟨rfl, rfl, (Below.refl _ _).alloc (Nat.le_refl _) _, by rw [cell_of_row _ _ _ _ _ _ (heap_alloc_new w _)]; rfl⟩
      case round =>
        obtain ⟨rfl, rfl, HW, hcl⟩ := hrel
        go_wp2_with fail
        go_ret2
        exact ⟨rfl, HW.out⟩
  · have l8 : ((s.size : Int) > 8) = True := eq_true (by omega)
    have HR : Hid (smallR s = 0 ∧ smallOk s = false) := Lib.hid (by
      have : smallOk s = false := by unfold smallOk; simp [h8]
      exact ⟨by unfold smallR; rw [this]; rfl, this⟩)
    go_enter Tryz.func140, Tryz.ntmps140
    go_wp2_with fail
    go_ret2
    exact ⟨by rw [HR.out.1, HR.out.2]; rfl, (Below.refl _ _).alloc (Nat.le_refl _) _⟩
theorem rsmall_list (s : ByteArray) (A : Option Addr) (n c : Nat) (w : World) : Calls Tryz.prog 140 #[.agg #[.bool true, .string s, .slice A n c]] w (RetV (.tuple #[.int .u64 0, .bool false]) w) := by
  go_enter Tryz.func140, Tryz.ntmps140
  go_wp2_with fail
  go_ret2
  exact ⟨rfl, (Below.refl _ _).alloc (Nat.le_refl _) _⟩
end Go.Proofs.YtdnpobjokajigaaGreatDoor
