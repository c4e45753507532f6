/-
  A word, there and back: plain.
-/
import Derived.Test.YtfphlkkhpccpnaaDoorPlNum
namespace Go.Proofs.YtfphlkkhpccpnaaDoor
open Go.RowKit Go.Proofs K

theorem or_step {L j : Nat} (hL : L < 18446744073709551616) (hj : j < 8) : bits BinOp.or IntKind.u64 ((L % 2 ^ (8 * j) : Nat) : Int) (IntKind.u64.wrap (IntKind.u64.wrap ((L / 2 ^ (j * 8) % 256 : Nat) : Int) * 2 ^ (j * 8))) = ((L % 2 ^ (8 * (j + 1)) : Nat) : Int) := by
  have h1 : L / 2 ^ (j * 8) % 256 < 256 := Nat.mod_lt _ (by decide)
  have h2 : 2 ^ (j * 8) ≤ 72057594037927936 := Nat.le_trans (Nat.pow_le_pow_right (by decide) (show j * 8 ≤ 56 by omega)) (by decide)
  have h3 : L / 2 ^ (j * 8) % 256 * 2 ^ (j * 8) < 18446744073709551616 := by
    have := Nat.mul_le_mul (Nat.le_of_lt_succ (show L / 2 ^ (j * 8) % 256 < 255 + 1 from h1)) h2
    omega
  rw [wrapU (by omega), show (((L / 2 ^ (j * 8) % 256 : Nat) : Int) * 2 ^ (j * 8)) = ((L / 2 ^ (j * 8) % 256 * 2 ^ (j * 8) : Nat) : Int) by simp, wrapU h3]
  have h4 : L % 2 ^ (8 * j) < 2 ^ (j * 8) := by rw [Nat.mul_comm 8 j]; exact Nat.mod_lt _ (Nat.pow_pos (by decide))
  rw [bits_or_u64_nat _ _ (by omega) h3, Nat.or_comm]
  have h5 := Nat.shiftLeft_add_eq_or_of_lt (a := L / 2 ^ (j * 8) % 256) h4
  rw [Nat.shiftLeft_eq] at h5
  rw [← h5, show 8 * (j + 1) = j * 8 + 8 by omega, Nat.pow_add, Nat.mod_mul, Nat.mul_comm 8 j, show (2 ^ 8 : Nat) = 256 from rfl, Nat.mul_comm (2 ^ (j * 8)), Nat.add_comm]
theorem of_part {s : ByteArray} {L : Nat → Nat} (hL : ∀ i, L i < 18446744073709551616) (n : Nat) (hs : ∀ k, k < n → lowB s k = ((L (k / 8) / 2 ^ (k % 8 * 8) % 256 : Nat) : Int)) : ∀ (k i : Nat), k ≤ n → ofL s k i = ((L i % 2 ^ (8 * min (k - 8 * i) 8) : Nat) : Int)
  | 0, i, _ => by
    rw [ofL, Nat.zero_sub, Nat.zero_min, Nat.mul_zero, Nat.pow_zero, Nat.mod_one]
    rfl
  | k + 1, i, hk => by
    rw [ofL, of_part hL n hs k i (by omega), hs k (by omega)]
    split
    · rename_i h
      have e1 : min (k - 8 * i) 8 = k % 8 := by omega
      have e2 : min (k + 1 - 8 * i) 8 = k % 8 + 1 := by omega
      rw [e1, e2, h]
      exact or_step (hL i) (Nat.mod_lt _ (by decide))
    · rename_i h
      have e : min (k - 8 * i) 8 = min (k + 1 - 8 * i) 8 := by omega
      rw [e]
theorem getD_map {α β : Type} (f : α → β) (l : List α) (n : Nat) (a : α) : (l.map f).getD n (f a) = f (l.getD n a) := by
  simp only [List.getD_eq_getElem?_getD, List.getElem?_map]
  cases l[n]? <;> rfl
/-- A word's bytes are read as the word. -/
theorem word_back {a b c d : Int} (ha : W64 a) (hb : W64 b) (hc : W64 c) (hd : W64 d) : ofL (wordS a b c d) (wordS a b c d).size 3 = a ∧ ofL (wordS a b c d) (wordS a b c d).size 2 = b ∧ ofL (wordS a b c d) (wordS a b c d).size 1 = c ∧ ofL (wordS a b c d) (wordS a b c d).size 0 = d := by
  have h32 : (wordS a b c d).size = 32 := by simp [wordS, strOfNums_size, wordL]
  have hl : ∀ i, W64 (lim a b c d i) := fun i => by
    match i with
    | 0 => exact hd
    | 1 => exact hc
    | 2 => exact hb
    | 3 => exact ha
    | _ + 4 => exact ⟨Int.le_refl 0, by show (0 : Int) < _; decide⟩
  have hs : ∀ k, k < 32 → lowB (wordS a b c d) k = (((lim a b c d (k / 8)).toNat / 2 ^ (k % 8 * 8) % 256 : Nat) : Int) := fun k hk => by
    unfold lowB
    have e1 : (wordS a b c d).data.toList = (wordL a b c d).map fun x => UInt8.ofNat x.toNat := by simp [wordS, strOfNums]
    rw [h32, e1, show (0 : UInt8) = (fun x : Int => UInt8.ofNat x.toNat) 0 from rfl, getD_map, wordL_at _ _ _ _ (by omega), show 31 - (32 - 1 - k) = k by omega]
    have h0 := (hl (k / 8)).1
    have e2 : wbyte a b c d k = (((lim a b c d (k / 8)).toNat / 2 ^ (k % 8 * 8) % 256 : Nat) : Int) := by
      unfold wbyte
      obtain ⟨n, hn⟩ := Int.eq_ofNat_of_zero_le h0
      rw [hn]
      simp
    rw [byteOf (by rw [e2]; omega) (by rw [e2]; omega), e2]
  have key := of_part (s := wordS a b c d) (L := fun i => (lim a b c d i).toNat) (fun i => by have := hl i; unfold W64 at this; show (lim a b c d i).toNat < _; omega) 32 hs 32
  rw [h32]
  unfold W64 at ha hb hc hd
  refine ⟨?_, ?_, ?_, ?_⟩
  · rw [key 3 (by omega)]
    simp only [lim]
    rw [Nat.mod_eq_of_lt (by simp; omega)]
    omega
  · rw [key 2 (by omega)]
    simp only [lim]
    rw [Nat.mod_eq_of_lt (by simp; omega)]
    omega
  · rw [key 1 (by omega)]
    simp only [lim]
    rw [Nat.mod_eq_of_lt (by simp; omega)]
    omega
  · rw [key 0 (by omega)]
    simp only [lim]
    rw [Nat.mod_eq_of_lt (by simp; omega)]
    omega
end Go.Proofs.YtfphlkkhpccpnaaDoor
