/-
  Words: of bytes.
-/
import Derived.Test.YtfphlkkhpccpnaaDoorWordB
import Derived.RegionTactic
import Derived.BigRegion
namespace Go.Proofs.YtfphlkkhpccpnaaDoor
open Go.RowKit Go.Proofs K

/-- Byte k of a text, the last one first; the parts of the number that the last k bytes are. -/
def lowB (s : ByteArray) (k : Nat) : Int := ((s.data.toList.getD (s.size - 1 - k) 0).toNat : Int)
def ofL (s : ByteArray) : Nat → Nat → Int
  | 0, _ => 0
  | k + 1, i => if k / 8 = i then bits BinOp.or IntKind.u64 (ofL s k i) (IntKind.u64.wrap (IntKind.u64.wrap (lowB s k) * 2 ^ (k % 8 * 8))) else ofL s k i
def ofCells (s : ByteArray) (k : Nat) : Array Value := #[.int .u64 (ofL s k 0), .int .u64 (ofL s k 1), .int .u64 (ofL s k 2), .int .u64 (ofL s k 3)]
theorem ofCells_at (s : ByteArray) (k : Nat) {i : Nat} (h : i < 4) : (ofCells s k)[i]? = some (.int .u64 (ofL s k i)) := by
  rcases (by omega : i = 0 ∨ i = 1 ∨ i = 2 ∨ i = 3) with e | e | e | e <;> rw [e] <;> rfl
theorem ofCells_set (s : ByteArray) {k : Nat} (h : k < 32) : (ofCells s k).setIfInBounds (k / 8) (.int .u64 (bits BinOp.or IntKind.u64 (ofL s k (k / 8)) (IntKind.u64.wrap (IntKind.u64.wrap (lowB s k) * 2 ^ (k % 8 * 8))))) = ofCells s (k + 1) := by
  rcases (by omega : k / 8 = 0 ∨ k / 8 = 1 ∨ k / 8 = 2 ∨ k / 8 = 3) with e | e | e | e <;> simp [ofCells, ofL, e]
theorem szWord : (Tryd.prog.info? 24).map (·.size) = some 4 := by kernel_rfl
theorem oneW (a b c d : Int) : (#[.int .u64 a, .int .u64 b, .int .u64 c, .int .u64 d] : Array Value).all (·.oneCell') = true := by simp [Value.oneCell']
def word0 : Value := .agg #[.int .u64 0, .int .u64 0, .int .u64 0, .int .u64 0]
theorem of_no (s : ByteArray) (hs : 32 < s.size) (w : World) : Calls Tryd.prog 77 #[.string s] w (RetV (.tuple #[word0, .bool false]) w) := by
  go_enter Tryd.func77, Tryd.ntmps77
  go_wp2
  exact bodyPost_ret (v := .tuple #[word0, .bool false]) (by simp [results, word0, Tryd.results77, go_sem]) rfl ⟨rfl, (Below.refl _ _).alloc (Nat.le_refl _) _⟩
set_option maxRecDepth 100000 in
theorem of_any (s : ByteArray) (hs : s.size ≤ 32) (w : World) : Calls Tryd.prog 77 #[.string s] w (RetV (.tuple #[.agg #[.int .u64 (ofL s s.size 3), .int .u64 (ofL s s.size 2), .int .u64 (ofL s s.size 1), .int .u64 (ofL s s.size 0)], .bool true]) w) := by
  go_enter Tryd.func77, Tryd.ntmps77
  go_wp2_with fail
  have HS2 := Lib.hid (((St.start (ag_emp w)).alloc (.cells #[.int .u64 0, .int .u64 0, .int .u64 0, .int .u64 0] 24)).alloc' (.cells (ofCells s 0) 152) (w.heap.size + 1) (by simp))
  go_loopw [12] (fun i wr => ∃ k : Nat, i = .int .i64 k ∧ k ≤ s.size ∧ Hid (St empH w none_ empH wr [blk (w.heap.size + 1) (.cells (ofCells s k) 152), blk w.heap.size (.cells #[.int .u64 0, .int .u64 0, .int .u64 0, .int .u64 0] 24)])) (fun i _ => 32 - (intOf i).toNat)
  case atStart => exact ⟨0, rfl, by omega, HS2⟩
  case round =>
    clear HS2
    obtain ⟨k, rfl, hk, HS⟩ := hrel
    by_cases hlt : k < s.size
    · have hq : (k : Int).tdiv 8 = ((k / 8 : Nat) : Int) := by rw [Int.tdiv_eq_ediv_of_nonneg (by omega)]; omega
      have hq4 : k / 8 < 4 := by omega
      have hc1 : wr.cell? ⟨w.heap.size + 1, k / 8, none⟩ = some (.int .u64 (ofL s k (k / 8))) := HS.out.cell 0 rfl (ofCells_at s k hq4)
      have hf1 : wr.frozen? ⟨w.heap.size + 1, k / 8, none⟩ = false := HS.out.frozen 0 rfl _
      have hi2 : (s.size : Int) - 1 - k = ((s.size - 1 - k : Nat) : Int) := by omega
      have hi3 : s.size - 1 - k < s.size := by omega
      have HB := Lib.hid (show ((s[s.size - 1 - k].toNat : Nat) : Int) = lowB s k by simp only [lowB, List.getD]; rw [List.getElem?_eq_getElem (show s.size - 1 - k < s.data.toList.length by simpa using hi3)]; rfl)
      go_wp2_with fail
      go_region
      go_wp2_with fail
      go_roundw
      case rel =>
        have S := (HS.out.setCell (j := k / 8) 0 rfl (.int .u64 (bits BinOp.or IntKind.u64 (ofL s k (k / 8)) (IntKind.u64.wrap (IntKind.u64.wrap (lowB s k) * 2 ^ (k % 8 * 8)))))).drew
        rw [ofCells_set s (by omega)] at S
        rw [HB.out]
        exact ⟨k + 1, by go_num, by omega, S⟩
      case measure => simp [intOf]; omega
    · obtain rfl : k = s.size := by omega
      have h0 : wr.cell? ⟨w.heap.size + 1, 0, none⟩ = some (.int .u64 (ofL s s.size 0)) := HS.out.cell 0 rfl rfl
      have h1 : wr.cell? ⟨w.heap.size + 1, 1, none⟩ = some (.int .u64 (ofL s s.size 1)) := HS.out.cell 0 rfl rfl
      have h2 : wr.cell? ⟨w.heap.size + 1, 2, none⟩ = some (.int .u64 (ofL s s.size 2)) := HS.out.cell 0 rfl rfl
      have h3 : wr.cell? ⟨w.heap.size + 1, 3, none⟩ = some (.int .u64 (ofL s s.size 3)) := HS.out.cell 0 rfl rfl
      go_wp2_with fail
      refine (join_any _ _ _ _ _).mono ?_
      rintro e w2 ⟨rfl, hb2⟩
      have HS3 := Lib.hid (HS.out.grow hb2)
      clear h0 h1 h2 h3 hb2 HS
      go_wp2_with (first
        | (refine wpList_store_st (cs := #[.int .u64 (ofL s s.size 3), .int .u64 (ofL s s.size 2), .int .u64 (ofL s s.size 1), .int .u64 (ofL s s.size 0)]) 1 HS3.out rfl rfl 24 (.tmp 2) (.tmp 35) rfl rfl rfl szWord rfl (oneW _ _ _ _) ?_)
        | fail)
      intro w4 S4
      go_wp2_with fail
      exact post_cell2 0 S4 rfl Tryd.results77 rfl _ Tryd.underlying24 rfl szWord rfl ⟨rfl, S4.below⟩
end Go.Proofs.YtfphlkkhpccpnaaDoor
