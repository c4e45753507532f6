/-
  A number's bytes; texts; what stands ahead.
-/
import Derived.Test.YtfphlkkhpccpnaaDoorShelf
import Derived.Test.YtfphlkkhpccpnaaDoorWordO
import Derived.Laws.BytesArg
namespace Go.Proofs.YtfphlkkhpccpnaaDoor
open Go.RowKit Go.Proofs K

def nbyte (n : Int) (i : Nat) : Int := n / 2 ^ (8 * i) % 256
def nbCells (n : Int) (k : Nat) : Array Value := ((List.range 8).map fun j => Value.int .u8 (if 7 - j < k then nbyte n (7 - j) else 0)).toArray
theorem nbCells_at (n : Int) (k : Nat) {j : Nat} (h : j < 8) : (nbCells n k)[j]? = some (.int .u8 (if 7 - j < k then nbyte n (7 - j) else 0)) := by
  simp [nbCells, h]
theorem nbCells_set (n : Int) {k : Nat} (h : k < 8) : (nbCells n k).setIfInBounds (7 - k) (.int .u8 (nbyte n k)) = nbCells n (k + 1) := by
  apply Array.ext_getElem?
  intro j
  rw [Array.getElem?_setIfInBounds]
  by_cases hj : j < 8
  · rw [nbCells_at _ _ hj, nbCells_at _ _ hj]
    by_cases e : 7 - k = j
    · rw [if_pos e, if_pos (by simp [nbCells]; omega), if_pos (by omega), show 7 - j = k by omega]
    · rw [if_neg e]
      by_cases h2 : 7 - j < k
      · rw [if_pos h2, if_pos (by omega)]
      · rw [if_neg h2, if_neg (by omega)]
  · have e1 : ∀ k, (nbCells n k)[j]? = none := fun k => Array.getElem?_eq_none (by simp [nbCells]; omega)
    rw [e1, e1, if_neg (by omega)]
/-- A number's eight bytes, the highest first; those of them that count. -/
def nbL (n : Int) : List Int := (List.range 8).map fun j => nbyte n (7 - j)
def nbS (n : Int) : ByteArray := strOfNums (nbL n)
theorem nbL_at (n : Int) {j : Nat} (h : j < 8) : (nbL n).getD j 0 = nbyte n (7 - j) := by simp [nbL, h]
def numL (n : Int) : List UInt8 := Lib.trimLeftB (nbS n).data.toList 0
def numS (n : Int) : ByteArray := ⟨(numL n).toArray⟩

set_option maxRecDepth 100000 in
theorem number_any (n : Int) (w : World) : Calls Tryd.prog 61 #[.int .u64 n] w (RetV (.string (numS n)) w) := by
  go_enter Tryd.func61, Tryd.ntmps61
  go_wp2_with fail
  have HS2 := Lib.hid ((St.start (ag_emp w)).alloc (.cells (nbCells n 0) 148))
  go_loopw [5] (fun i wr => ∃ k : Nat, i = .int .i64 k ∧ k ≤ 8 ∧ Hid (St empH w none_ empH wr [blk w.heap.size (.cells (nbCells n k) 148)])) (fun i _ => 8 - (intOf i).toNat)
  case atStart => exact ⟨0, rfl, by omega, HS2⟩
  case round =>
    clear HS2
    obtain ⟨k, rfl, hk, HS⟩ := hrel
    by_cases hlt : k < 8
    · have hc2 : wr.cell? ⟨w.heap.size, 7 - k, none⟩ = some _ := HS.out.cell 0 rfl (nbCells_at n k (by omega))
      have hf2 : wr.frozen? ⟨w.heap.size, 7 - k, none⟩ = false := HS.out.frozen 0 rfl _
      go_wp2_with fail
      go_roundw
      case rel =>
        have S := HS.out.setCell (j := 7 - k) 0 rfl (.int .u8 (nbyte n k))
        rw [nbCells_set n hlt] at S
        exact ⟨k + 1, by go_num, by omega, S⟩
      case measure => simp [intOf]; omega
    · obtain rfl : k = 8 := by omega
      have hconv := run_convert_bytes_arg wr 33 5 Tryd.underlying33 Tryd.underlying5 w.heap.size 0 8 8 (nbL n) rfl (fun i hi => by
        rw [Nat.zero_add, nbL_at _ hi, HS.out.cell 0 rfl (nbCells_at n 8 hi), if_pos (by omega)]) 9 Tryd.underlying9
      go_wp2_with (go_at_call 85; refine (Tryd.strings_TrimLeft_one (nbS n) 0 (by decide) _).mono ?_; rintro e w2 ⟨rfl, rfl⟩)
      go_ret
      exact ⟨rfl, HS.out.below⟩

/-- An item that is a text. -/
def textV (s : ByteArray) : Value := .agg #[.bool false, .string s, .slice none 0 0]
theorem text_any (s : ByteArray) (w : World) : Calls Tryd.prog 34 #[.string s] w (RetV (.agg #[.bool false, .string s, .slice none 0 0]) w) := by
  go_enter Tryd.func34, Tryd.ntmps34
  go_wp2
  exact bodyPost_ret (v := .agg #[.bool false, .string s, .slice none 0 0]) (by simp [results, Tryd.results34, go_sem]) rfl ⟨rfl, (Below.refl _ _).alloc (Nat.le_refl _) _⟩
end Go.Proofs.YtfphlkkhpccpnaaDoor
