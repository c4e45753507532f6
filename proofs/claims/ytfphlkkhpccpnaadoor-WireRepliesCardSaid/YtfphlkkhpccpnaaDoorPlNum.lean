/-
  Numbers, there and back: plain.
-/
import Derived.Test.YtfphlkkhpccpnaaDoorSmall
import Derived.Test.YtfphlkkhpccpnaaDoorItem
import Derived.Laws.Bits64b
namespace Go.Proofs.YtfphlkkhpccpnaaDoor
open Go.RowKit Go.Proofs K

/-- The value of bytes, the highest first. -/
def valN (l : List UInt8) : Nat := l.foldl (fun n b => n * 256 + b.toNat) 0
theorem wrapU {n : Nat} (h : n < 18446744073709551616) : IntKind.u64.wrap (n : Int) = (n : Int) := by
  simp only [IntKind.wrap, IntKind.bits, IntKind.signed]
  simp
  omega
theorem sstep_val {x : Nat} {b : UInt8} (h : x < 72057594037927936) : sstep (x : Int) b = ((x * 256 + b.toNat : Nat) : Int) := by
  have hb := b.toNat_lt
  unfold sstep
  rw [show ((x : Int) * 256) = ((x * 256 : Nat) : Int) by simp, wrapU (by omega), wrapU (by omega), bits_or_u64_nat _ _ (by omega) (by omega)]
  have := Nat.shiftLeft_add_eq_or_of_lt (a := x) (b := b.toNat) (i := 8) (by simpa using hb)
  rw [Nat.shiftLeft_eq] at this
  rw [← this]
theorem small_fold : ∀ (l : List UInt8) (x k : Nat), x < 256 ^ k → k + l.length ≤ 8 → l.foldl sstep (x : Int) = ((l.foldl (fun n b => n * 256 + b.toNat) x : Nat) : Int) ∧ l.foldl (fun n b => n * 256 + b.toNat) x < 256 ^ (k + l.length)
  | [], x, k, hx, _ => ⟨rfl, by simpa using hx⟩
  | b :: l, x, k, hx, hk => by
    simp only [List.length_cons] at hk
    have h7 : x < 72057594037927936 := Nat.lt_of_lt_of_le hx (Nat.le_trans (Nat.pow_le_pow_right (by decide) (show k ≤ 7 by omega)) (by decide))
    have hb := b.toNat_lt
    have := small_fold l (x * 256 + b.toNat) (k + 1) (by rw [Nat.pow_succ]; omega) (by omega)
    rw [List.foldl_cons, List.foldl_cons, sstep_val h7]
    rw [show k + (b :: l).length = k + 1 + l.length by simp; omega]
    exact this
theorem smallV_val {l : List UInt8} (h : l.length ≤ 8) : smallV l = (valN l : Int) := (small_fold l 0 0 (by decide) (by omega)).1
theorem valN_lt {l : List UInt8} (h : l.length ≤ 8) : valN l < 256 ^ l.length := by
  have := (small_fold l 0 0 (by decide) (by omega)).2
  rw [Nat.zero_add] at this
  exact this
theorem valN_zero : ∀ (l : List UInt8), valN (l.dropWhile (· == 0)) = valN l
  | [] => rfl
  | b :: l => by
    rw [List.dropWhile_cons]
    split
    · rename_i h
      rw [valN_zero l]
      have h' : b = 0 := by simpa using h
      subst h'
      rfl
    · rfl
theorem byteOf {x : Int} (h : 0 ≤ x) (h2 : x < 256) : ((UInt8.ofNat x.toNat).toNat : Int) = x := by
  rw [UInt8.toNat_ofNat']
  omega
theorem nbS_list (n : Int) : (nbS n).data.toList = (nbL n).map fun x => UInt8.ofNat x.toNat := by simp [nbS, strOfNums]
theorem valN_nb {n : Nat} (h : n < 18446744073709551616) : valN (nbS (n : Int)).data.toList = n := by
  have e : ∀ x : Nat, (UInt8.ofNat ((x : Int) % 256).toNat).toNat = x % 256 := fun x => by
    rw [UInt8.toNat_ofNat']
    omega
  have q : ∀ i : Nat, ((n : Int) / 2 ^ (8 * i)) = ((n / 2 ^ (8 * i) : Nat) : Int) := fun i => by simp
  rw [nbS_list]
  simp only [nbL, List.map_map, valN, List.foldl_map, nbyte, q, Function.comp_def, e]
  simp [List.range_succ]
  omega
/-- A number's bytes are read as the number. -/
theorem valN_num {n : Nat} (h : n < 18446744073709551616) : valN (numL (n : Int)) = n := by
  unfold numL Lib.trimLeftB
  rw [valN_zero, valN_nb h]
theorem dropWhile_head {l : List UInt8} : Lib.hasPrefix (l.dropWhile (· == 0)) [0] = false := by
  induction l with
  | nil => rfl
  | cons b l ih =>
    rw [List.dropWhile_cons]
    split
    · exact ih
    · rename_i h
      show ((0 : UInt8) == b && List.isPrefixOf [] l) = false
      have h' : ((0 : UInt8) == b) = false := by
        rw [beq_eq_false_iff_ne]
        intro e
        exact h (by rw [← e]; exact beq_self_eq_true _)
      rw [h']
      rfl
theorem numL_ok (n : Int) : smallOk (numS n) = true := by
  have h := numL_len n
  have e : (numS n).data.toList = numL n := by simp [numS]
  have e2 : (numS n).size = (numL n).length := by simp [numS, ByteArray.size]
  unfold smallOk
  rw [e, e2]
  rw [show Lib.hasPrefix (numL n) [0] = false from dropWhile_head]
  simp [h]
theorem numS_back {n : Int} (h0 : 0 ≤ n) (h : n < 18446744073709551616) : smallR (numS n) = n := by
  obtain ⟨m, rfl⟩ : ∃ m : Nat, n = (m : Int) := ⟨n.toNat, by omega⟩
  have e : (numS (m : Int)).data.toList = numL m := by simp [numS]
  unfold smallR
  rw [if_pos (numL_ok _), e, smallV_val (numL_len _), valN_num (by omega)]
end Go.Proofs.YtfphlkkhpccpnaaDoor
