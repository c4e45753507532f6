/-
  Words: bytes.
-/
import Derived.Test.YtfphlkkhpccpnaaDoorWord
import Derived.Deep.LoopGhost
import Derived.Laws.BytesArg
namespace Go.Proofs.YtfphlkkhpccpnaaDoor
open Go.RowKit Go.Proofs K

/-- A word's part of 64 bits, the lowest first; its byte i, the lowest first. -/
def lim (a b c d : Int) (k : Nat) : Int := match k with | 0 => d | 1 => c | 2 => b | 3 => a | _ => 0
def wbyte (a b c d : Int) (i : Nat) : Int := lim a b c d (i / 8) / 2 ^ (i % 8 * 8) % 256
def wbCells (a b c d : Int) (k : Nat) : Array Value := ((List.range 32).map fun j => Value.int .u8 (if 31 - j < k then wbyte a b c d (31 - j) else 0)).toArray
def W64 (a : Int) : Prop := 0 ≤ a ∧ a < 18446744073709551616
theorem wbCells_at (a b c d : Int) (k : Nat) {j : Nat} (h : j < 32) : (wbCells a b c d k)[j]? = some (.int .u8 (if 31 - j < k then wbyte a b c d (31 - j) else 0)) := by
  simp [wbCells, h]
theorem wbCells_set (a b c d : Int) {k : Nat} (h : k < 32) : (wbCells a b c d k).setIfInBounds (31 - k) (.int .u8 (wbyte a b c d k)) = wbCells a b c d (k + 1) := by
  apply Array.ext_getElem?
  intro j
  rw [Array.getElem?_setIfInBounds]
  by_cases hj : j < 32
  · rw [wbCells_at _ _ _ _ _ hj, wbCells_at _ _ _ _ _ hj]
    by_cases e : 31 - k = j
    · rw [if_pos e, if_pos (by simp [wbCells]; omega), if_pos (by omega), show 31 - j = k by omega]
    · rw [if_neg e]
      by_cases h2 : 31 - j < k
      · rw [if_pos h2, if_pos (by omega)]
      · rw [if_neg h2, if_neg (by omega)]
  · have e1 : ∀ k, (wbCells a b c d k)[j]? = none := fun k => Array.getElem?_eq_none (by simp [wbCells]; omega)
    rw [e1, e1, if_neg (by omega)]
/-- A word's bytes, the highest first. -/
def wordL (a b c d : Int) : List Int := (List.range 32).map fun j => wbyte a b c d (31 - j)
def wordS (a b c d : Int) : ByteArray := strOfNums (wordL a b c d)
theorem wordL_at (a b c d : Int) {j : Nat} (h : j < 32) : (wordL a b c d).getD j 0 = wbyte a b c d (31 - j) := by simp [wordL, h]

set_option maxRecDepth 100000 in
theorem bytes_any (a b c d : Int) (w : World) : Calls Tryd.prog 62 #[.agg #[.int .u64 a, .int .u64 b, .int .u64 c, .int .u64 d]] w (RetV (.string (wordS a b c d)) w) := by
  go_enter Tryd.func62, Tryd.ntmps62
  go_wp2_with fail
  refine (cut_any a b c d _).mono ?_
  rintro e w1 ⟨rfl, hb1⟩
  have HS1 : Hid (St empH w none_ empH w1 [blk (w.heap.size + 1) (.cells (wbCells a b c d 0) 150)]) :=
    (((((St.start (ag_emp w)).alloc _).alloc' (.cells (wbCells a b c d 0) 150) (w.heap.size + 1) (by simp)).drop 1).grow hb1)
  clear hb1
  go_wp2_with fail
  have HS2 := Lib.hid (HS1.out.alloc (.cells #[.int .u64 d, .int .u64 c, .int .u64 b, .int .u64 a] 152))
  clear HS1
  go_loopw [8] (fun i wr => ∃ k : Nat, i = .int .i64 k ∧ k ≤ 32 ∧ Hid (St empH w none_ empH wr [blk (w.heap.size + 1) (.cells (wbCells a b c d k) 150), blk w1.heap.size (.cells #[.int .u64 d, .int .u64 c, .int .u64 b, .int .u64 a] 152)])) (fun i _ => 32 - (intOf i).toNat)
  case atStart => exact ⟨0, rfl, by omega, HS2.out.pick 1 rfl⟩
  case round =>
    clear HS2
    obtain ⟨k, rfl, hk, HS⟩ := hrel
    by_cases hlt : k < 32
    · have hq : (k : Int).tdiv 8 = ((k / 8 : Nat) : Int) := by rw [Int.tdiv_eq_ediv_of_nonneg (by omega)]; omega
      have hq4 : k / 8 < 4 := by omega
      have hc1 : wr.cell? ⟨w1.heap.size, k / 8, none⟩ = some (.int .u64 (lim a b c d (k / 8))) := by
        refine HS.out.cell 1 rfl ?_
        rcases (by omega : k / 8 = 0 ∨ k / 8 = 1 ∨ k / 8 = 2 ∨ k / 8 = 3) with e | e | e | e <;> rw [e] <;> rfl
      have hc2 : wr.cell? ⟨w.heap.size + 1, 31 - k, none⟩ = some _ := HS.out.cell 0 rfl (wbCells_at a b c d k (by omega))
      have hf2 : wr.frozen? ⟨w.heap.size + 1, 31 - k, none⟩ = false := HS.out.frozen 0 rfl _
      go_wp2_with fail
      go_roundw
      case rel =>
        have S := HS.out.setCell (j := 31 - k) 0 rfl (.int .u8 (wbyte a b c d k))
        rw [wbCells_set a b c d hlt] at S
        exact ⟨k + 1, by go_num, by omega, S⟩
      case measure => simp [intOf]; omega
    · obtain rfl : k = 32 := by omega
      have hconv := run_convert_bytes_arg wr 33 5 Tryd.underlying33 Tryd.underlying5 (w.heap.size + 1) 0 32 32 (wordL a b c d) rfl (fun i hi => by
        rw [Nat.zero_add, wordL_at _ _ _ _ hi, HS.out.cell 0 rfl (wbCells_at a b c d 32 hi), if_pos (by omega)]) 9 Tryd.underlying9
      go_wp2_with fail
      go_ret
      exact ⟨rfl, HS.out.below⟩
end Go.Proofs.YtfphlkkhpccpnaaDoor
