/-
  A text's sum, as bytes.
-/
import Derived.Test.YtfphlkkhpccpnaaDoorCrc
import Derived.Laws.BytesArg
namespace Go.Proofs.YtfphlkkhpccpnaaDoor
open Go.RowKit Go.Proofs K

def sumL (n : Int) : List Int := [n / 16777216, n / 65536 % 256, n / 256 % 256, n % 256]
def sumS (s : ByteArray) : ByteArray := strOfNums (sumL (crcI 0 s))
set_option maxRecDepth 100000 in
theorem wsum_any (s : ByteArray) (hs : s.size ≤ 140737488355328) (w : World) : Calls Tryd.prog 47 #[.string s] w (RetV (.string (sumS s)) w) := by
  obtain ⟨h0, h1⟩ := cnot_bd (cmore (cnot 0) s.data.toList)
  go_enter Tryd.func47, Tryd.ntmps47
  go_wp2_with fail
  refine (sum_any s hs _).mono ?_
  rintro e w1 ⟨rfl, hb1⟩
  obtain ⟨n, hn⟩ : ∃ n, n = crcI 0 s := ⟨_, rfl⟩
  rw [← hn]
  have h0 : 0 ≤ n := by rw [hn]; exact h0
  have h1 : n < 4294967296 := by rw [hn]; exact h1
  have HN := Lib.hid hn
  clear hn
  have hconv := run_convert_bytes_arg (w1.alloc (.cells #[.int .u8 (n / 16777216), .int .u8 (n / 65536 % 256), .int .u8 (n / 256 % 256), .int .u8 (n % 256)] 5)) 33 5 Tryd.underlying33 Tryd.underlying5 w1.heap.size 0 4 4 (sumL n) rfl (fun i hi => by
    rw [cell_of_row _ _ _ _ _ _ (heap_alloc_new w1 _)]
    rcases (by omega : i = 0 ∨ i = 1 ∨ i = 2 ∨ i = 3) with e | e | e | e <;> rw [e] <;> rfl) 9 Tryd.underlying9
  go_wp2_with fail
  go_ret
  exact ⟨by rw [HN.out]; rfl, hb1.alloc hb1.size _⟩
end Go.Proofs.YtfphlkkhpccpnaaDoor
