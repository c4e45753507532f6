/-
  A byte turned turns the sum: plain.
-/
import Derived.Test.YtfphlkkhpccpnaaDoorPlRep
namespace Go.Proofs.YtfphlkkhpccpnaaDoor
open Go.RowKit Go.Proofs K
set_option linter.unusedVariables false

theorem bx32 (a b : Nat) (ha : a < 4294967296) (hb : b < 4294967296) : bits .xor .u32 (a : Int) (b : Int) = ((a ^^^ b : Nat) : Int) := by
  have hx : a ^^^ b < 2 ^ 32 := Nat.xor_lt_two_pow (by omega) (by omega)
  have h1 : (BitVec.ofInt 32 (a : Int)).toNat = a := by
    rw [BitVec.ofInt_natCast, BitVec.toNat_ofNat]; exact Nat.mod_eq_of_lt (by omega)
  have h2 : (BitVec.ofInt 32 (b : Int)).toNat = b := by
    rw [BitVec.ofInt_natCast, BitVec.toNat_ofNat]; exact Nat.mod_eq_of_lt (by omega)
  show IntKind.u32.wrap ((BitVec.ofInt 32 (a : Int) ^^^ BitVec.ofInt 32 (b : Int)).toNat : Int) = _
  rw [BitVec.toNat_xor, h1, h2]
  simp [IntKind.wrap, IntKind.bits, IntKind.signed]
  omega
theorem bx8 (a b : Nat) (ha : a < 256) (hb : b < 256) : bits .xor .u8 (a : Int) (b : Int) = ((a ^^^ b : Nat) : Int) := by
  have hx : a ^^^ b < 2 ^ 8 := Nat.xor_lt_two_pow (by omega) (by omega)
  have h1 : (BitVec.ofInt 8 (a : Int)).toNat = a := by
    rw [BitVec.ofInt_natCast, BitVec.toNat_ofNat]; exact Nat.mod_eq_of_lt (by omega)
  have h2 : (BitVec.ofInt 8 (b : Int)).toNat = b := by
    rw [BitVec.ofInt_natCast, BitVec.toNat_ofNat]; exact Nat.mod_eq_of_lt (by omega)
  show IntKind.u8.wrap ((BitVec.ofInt 8 (a : Int) ^^^ BitVec.ofInt 8 (b : Int)).toNat : Int) = _
  rw [BitVec.toNat_xor, h1, h2]
  simp [IntKind.wrap, IntKind.bits, IntKind.signed]
  omega
def topInv : List Nat := [
  0, 65, 195, 130, 134, 199, 69, 4, 77, 12, 142, 207, 203, 138, 8, 73, 154, 219, 89, 24, 28, 93, 223, 158, 215, 150, 20, 85, 81, 16, 146, 211,
  117, 52, 182, 247, 243, 178, 48, 113, 56, 121, 251, 186, 190, 255, 125, 60, 239, 174, 44, 109, 105, 40, 170, 235, 162, 227, 97, 32, 36, 101, 231, 166,
  234, 171, 41, 104, 108, 45, 175, 238, 167, 230, 100, 37, 33, 96, 226, 163, 112, 49, 179, 242, 246, 183, 53, 116, 61, 124, 254, 191, 187, 250, 120, 57,
  159, 222, 92, 29, 25, 88, 218, 155, 210, 147, 17, 80, 84, 21, 151, 214, 5, 68, 198, 135, 131, 194, 64, 1, 72, 9, 139, 202, 206, 143, 13, 76,
  149, 212, 86, 23, 19, 82, 208, 145, 216, 153, 27, 90, 94, 31, 157, 220, 15, 78, 204, 141, 137, 200, 74, 11, 66, 3, 129, 192, 196, 133, 7, 70,
  224, 161, 35, 98, 102, 39, 165, 228, 173, 236, 110, 47, 43, 106, 232, 169, 122, 59, 185, 248, 252, 189, 63, 126, 55, 118, 244, 181, 177, 240, 114, 51,
  127, 62, 188, 253, 249, 184, 58, 123, 50, 115, 241, 176, 180, 245, 119, 54, 229, 164, 38, 103, 99, 34, 160, 225, 168, 233, 107, 42, 46, 111, 237, 172,
  10, 75, 201, 136, 140, 205, 79, 14, 71, 6, 132, 197, 193, 128, 2, 67, 144, 209, 83, 18, 22, 87, 213, 148, 221, 156, 30, 95, 91, 26, 152, 217]
def tabN (i : Nat) : Nat := (csteps 8 (i : Int)).toNat
theorem top_all : (List.range 256).all (fun i => topInv.getD (tabN i / 16777216) 0 == i) = true := by decide +kernel
theorem tab_top {i j : Nat} (hi : i < 256) (hj : j < 256) (h : tabN i / 16777216 = tabN j / 16777216) : i = j := by
  have h1 := List.all_eq_true.1 top_all i (List.mem_range.2 hi)
  have h2 := List.all_eq_true.1 top_all j (List.mem_range.2 hj)
  rw [beq_iff_eq] at h1 h2
  rw [← h1, ← h2, h]
theorem tab_bd (i : Nat) (hi : i < 256) : (csteps 8 (i : Int)) = (tabN i : Int) ∧ tabN i < 4294967296 := by
  obtain ⟨h0, h1⟩ := csteps_bd (x := (i : Int)) (by omega) (by omega) 8
  unfold tabN
  omega
def cbN (t b : Nat) : Nat := t / 256 ^^^ tabN (t % 256 ^^^ b)
theorem xor256 {a b : Nat} (ha : a < 256) (hb : b < 256) : a ^^^ b < 256 := Nat.xor_lt_two_pow (n := 8) ha hb
theorem cbyte_nat {t b : Nat} (ht : t < 4294967296) (hb : b < 256) : cbyte (t : Int) (b : Int) = (cbN t b : Int) := by
  have h8 := xor256 (show t % 256 < 256 by omega) hb
  have h1 := tab_bd _ h8
  unfold cbyte cbN
  rw [show ((t : Int) % 256) = ((t % 256 : Nat) : Int) by omega, bx8 _ _ (by omega) hb, h1.1, show ((t : Int) / 256) = ((t / 256 : Nat) : Int) by omega]
  exact bx32 _ _ (by omega) h1.2
theorem cbN_bd {t b : Nat} (ht : t < 4294967296) (hb : b < 256) : cbN t b < 4294967296 :=
  Nat.xor_lt_two_pow (n := 32) (by omega) (tab_bd _ (xor256 (by omega) hb)).2
theorem xor_cancel {a b c : Nat} (h : a ^^^ b = a ^^^ c) : b = c := by
  have := congrArg (a ^^^ ·) h
  simpa [← Nat.xor_assoc] using this
theorem cbN_top {t b : Nat} (ht : t < 4294967296) : cbN t b / 16777216 = tabN (t % 256 ^^^ b) / 16777216 := by
  have h := Nat.shiftRight_xor_distrib (a := t / 256) (b := tabN (t % 256 ^^^ b)) (i := 24)
  simp only [Nat.shiftRight_eq_div_pow] at h
  unfold cbN
  rw [show (16777216 : Nat) = 2 ^ 24 from rfl, h, show t / 256 / 2 ^ 24 = 0 by omega, Nat.zero_xor]
/-- Other bytes behind the same, the same behind others. -/
theorem cbN_byte {t b c : Nat} (ht : t < 4294967296) (hb : b < 256) (hc : c < 256) (h : cbN t b = cbN t c) : b = c := by
  have h1 := congrArg (· / 16777216) h
  simp only [cbN_top ht] at h1
  exact xor_cancel (tab_top (xor256 (by omega) hb) (xor256 (by omega) hc) h1)
theorem cbN_state {t u b : Nat} (ht : t < 4294967296) (hu : u < 4294967296) (hb : b < 256) (h : cbN t b = cbN u b) : t = u := by
  have h1 := congrArg (· / 16777216) h
  simp only [cbN_top ht, cbN_top hu] at h1
  have h2 := tab_top (xor256 (by omega) hb) (xor256 (by omega) hb) h1
  have h3 : t % 256 = u % 256 := by
    rw [Nat.xor_comm _ b, Nat.xor_comm _ b] at h2
    exact xor_cancel h2
  unfold cbN at h
  rw [h3, Nat.xor_comm, Nat.xor_comm (u / 256)] at h
  have h4 := xor_cancel h
  omega
def cmN (t : Nat) (l : List UInt8) : Nat := l.foldl (fun t b => cbN t b.toNat) t
theorem cmN_cons (t : Nat) (b : UInt8) (l : List UInt8) : cmN t (b :: l) = cmN (cbN t b.toNat) l := rfl
theorem cmN_append (t : Nat) (l r : List UInt8) : cmN t (l ++ r) = cmN (cmN t l) r := List.foldl_append
theorem cmN_bd : ∀ {l : List UInt8} {t : Nat}, t < 4294967296 → cmN t l < 4294967296
  | [], _, h => h
  | b :: l, t, h => cmN_bd (l := l) (cbN_bd h b.toNat_lt)
theorem cmore_nat : ∀ {l : List UInt8} {t : Nat}, t < 4294967296 → cmore (t : Int) l = (cmN t l : Int)
  | [], _, _ => rfl
  | b :: l, t, h => by
    show cmore (cbyte (t : Int) (b.toNat : Int)) l = _
    rw [cbyte_nat h b.toNat_lt, cmN_cons]
    exact cmore_nat (cbN_bd h b.toNat_lt)
theorem cmN_inj : ∀ {l : List UInt8} {t u : Nat}, t < 4294967296 → u < 4294967296 → cmN t l = cmN u l → t = u
  | [], _, _, _, _, h => h
  | b :: l, t, u, ht, hu, h => cbN_state ht hu b.toNat_lt (cmN_inj (cbN_bd ht b.toNat_lt) (cbN_bd hu b.toNat_lt) h)
theorem cmN_turn {t : Nat} (ht : t < 4294967296) (l r : List UInt8) {b c : UInt8} (h : cmN t (l ++ b :: r) = cmN t (l ++ c :: r)) : b = c := by
  rw [cmN_append, cmN_append, cmN_cons, cmN_cons] at h
  have h1 := cmN_bd (l := l) ht
  exact UInt8.toNat_inj.1 (cbN_byte h1 b.toNat_lt c.toNat_lt (cmN_inj (cbN_bd h1 b.toNat_lt) (cbN_bd h1 c.toNat_lt) h))
theorem cnot_nat {x : Nat} (h : x < 4294967296) : cnot (x : Int) = ((4294967295 ^^^ x : Nat) : Int) := by
  unfold cnot
  rw [show IntKind.u32.max = ((4294967295 : Nat) : Int) by rfl]
  exact bx32 _ _ (by omega) h
theorem crcI_nat (s : ByteArray) : crcI 0 s = ((4294967295 ^^^ cmN 4294967295 s.data.toList : Nat) : Int) := by
  unfold crcI
  rw [show cnot 0 = ((4294967295 : Nat) : Int) from (cnot_nat (x := 0) (by decide)).trans (by rfl), cmore_nat (by decide)]
  exact cnot_nat (cmN_bd (by decide))
/-- One byte another one: another sum. -/
theorem crc_turn (l r : List UInt8) {b c : UInt8} (h : crcI 0 (bs (l ++ b :: r)) = crcI 0 (bs (l ++ c :: r))) : b = c := by
  rw [crcI_nat, crcI_nat] at h
  exact cmN_turn (by decide) l r (xor_cancel (Int.ofNat.inj h))
theorem crc_bd (s : ByteArray) : 0 ≤ crcI 0 s ∧ crcI 0 s < 4294967296 := cnot_bd _
theorem sumS_inj {s t : ByteArray} (h : sumS s = sumS t) : crcI 0 s = crcI 0 t := by
  have h1 := crc_bd s
  have h2 := crc_bd t
  have h3 : (sumL (crcI 0 s)).map (fun n => UInt8.ofNat n.toNat) = (sumL (crcI 0 t)).map (fun n => UInt8.ofNat n.toNat) := by
    have := congrArg (fun x : ByteArray => x.data.toList) h
    simp only [sumS, strOfNums_data] at this
    exact this
  generalize crcI 0 s = x at *
  generalize crcI 0 t = y at *
  simp only [sumL, List.map_cons, List.cons.injEq] at h3
  obtain ⟨e1, e2, e3, e4, _⟩ := h3
  have e1 := congrArg UInt8.toNat e1
  have e2 := congrArg UInt8.toNat e2
  have e3 := congrArg UInt8.toNat e3
  have e4 := congrArg UInt8.toNat e4
  simp only [UInt8.toNat_ofNat'] at e1 e2 e3 e4
  omega
end Go.Proofs.YtfphlkkhpccpnaaDoor
