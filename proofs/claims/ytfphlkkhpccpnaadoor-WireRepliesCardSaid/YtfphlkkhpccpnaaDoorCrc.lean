/-
  The sums' table, a sum.
-/
import Derived.Test.YtfphlkkhpccpnaaDoorWord
import Derived.Deep.LoopGhost
import Derived.Laws.Closers25b
namespace Go.Proofs.YtfphlkkhpccpnaaDoor
open Go.RowKit Go.Proofs K

def cstep (x : Int) : Int := bits BinOp.xor IntKind.u32 (x / 2) (3988292384 * bits BinOp.and IntKind.u32 x 1 % 4294967296)
def csteps : Nat → Int → Int
  | 0, x => x
  | m + 1, x => cstep (csteps m x)
theorem csteps_bd {x : Int} (h0 : 0 ≤ x) (h1 : x < 4294967296) : ∀ m, 0 ≤ csteps m x ∧ csteps m x < 4294967296
  | 0 => ⟨h0, h1⟩
  | m + 1 => by
    have e : csteps (m + 1) x = bits BinOp.xor IntKind.u32 (csteps m x / 2) (3988292384 * bits BinOp.and IntKind.u32 (csteps m x) 1 % 4294967296) := rfl
    rw [e]
    have h2 := bits_lo_u32 BinOp.xor (csteps m x / 2) (3988292384 * bits BinOp.and IntKind.u32 (csteps m x) 1 % 4294967296)
    have h3 := bits_hi_u32 BinOp.xor (csteps m x / 2) (3988292384 * bits BinOp.and IntKind.u32 (csteps m x) 1 % 4294967296)
    omega
def tabC (k : Nat) : Array Value := ((List.range 256).map fun j => Value.int .u32 (if j < k then csteps 8 (j : Int) else 0)).toArray
theorem tabC_at (k : Nat) {j : Nat} (h : j < 256) : (tabC k)[j]? = some (.int .u32 (if j < k then csteps 8 (j : Int) else 0)) := by
  simp [tabC, h]
theorem tabC_set {k : Nat} (h : k < 256) : (tabC k).setIfInBounds k (.int .u32 (csteps 8 (k : Int))) = tabC (k + 1) := by
  apply Array.ext_getElem?
  intro j
  rw [Array.getElem?_setIfInBounds]
  by_cases hj : j < 256
  · rw [tabC_at _ hj, tabC_at _ hj]
    by_cases e : k = j
    · rw [if_pos e, if_pos (by simp [tabC]; omega), if_pos (by omega), e]
    · rw [if_neg e]
      by_cases h2 : j < k
      · rw [if_pos h2, if_pos (by omega)]
      · rw [if_neg h2, if_neg (by omega)]
  · have e1 : ∀ k, (tabC k)[j]? = none := fun k => Array.getElem?_eq_none (by simp [tabC]; omega)
    rw [e1, e1, if_neg (by omega)]
theorem tabC_size (k : Nat) : (tabC k).size = 256 := by simp [tabC]
theorem tabC_one (k : Nat) : (tabC k).all (·.oneCell') = true := by
  rw [Array.all_eq_true]
  intro i hi
  have h : i < 256 := by rw [tabC_size] at hi; exact hi
  have h2 := tabC_at k h
  rw [Array.getElem?_eq_getElem hi] at h2
  rw [Option.some.inj h2]
  rfl
theorem szTab : (Tryd.prog.info? 183).map (·.size) = some 256 := by kernel_rfl

set_option maxRecDepth 100000 in
theorem table_any (w : World) : Calls Tryd.prog 110 #[] w (RetV (.agg (tabC 256)) w) := by
  go_enter Tryd.func110, Tryd.ntmps110
  go_wp2_with fail
  have HS2 : Hid (St empH w none_ empH _ [blk w.heap.size (.cells (tabC 0) 183)]) := Lib.hid ((St.start (ag_emp w)).alloc (.cells (tabC 0) 183))
  go_loopw [3] (fun i wr => ∃ k : Nat, i = .int .i64 k ∧ k ≤ 256 ∧ Hid (St empH w none_ empH wr [blk w.heap.size (.cells (tabC k) 183)])) (fun i _ => 256 - (intOf i).toNat)
  case atStart => exact ⟨0, rfl, by omega, HS2⟩
  case round =>
    clear HS2
    obtain ⟨k, rfl, hk, HS⟩ := hrel
    by_cases hlt : k < 256
    · go_wp2_with fail
      go_loop [2, 8] (fun n i => ∃ m : Nat, i = .int .i64 m ∧ m ≤ 8 ∧ n = .int .u32 (csteps m (k : Int))) (fun _ i => 8 - (intOf i).toNat)
      case atStart => exact ⟨0, rfl, by omega, rfl⟩
      case round =>
        obtain ⟨m, rfl, hm, rfl⟩ := hrel
        obtain ⟨hx0, hx1⟩ := csteps_bd (x := (k : Int)) (by omega) (by omega) m
        by_cases hlt2 : m < 8
        · go_wp2_with fail
          go_round
          case rel => exact ⟨m + 1, by go_num, by omega, rfl⟩
          case measure => simp [intOf]; omega
        · obtain rfl : m = 8 := by omega
          have hc2 : wr.cell? ⟨w.heap.size, k, none⟩ = some _ := HS.out.cell 0 rfl (tabC_at k hlt)
          have hf2 : wr.frozen? ⟨w.heap.size, k, none⟩ = false := HS.out.frozen 0 rfl _
          go_wp2_with fail
          go_roundw
          case rel =>
            have S := HS.out.setCell (j := k) 0 rfl (.int .u32 (csteps 8 (k : Int)))
            rw [tabC_set hlt] at S
            exact ⟨k + 1, by go_num, by omega, S⟩
          case measure => simp [intOf]; omega
    · obtain rfl : k = 256 := by omega
      go_wp2_with (first
        | (refine wpList_load_st (cs := tabC 256) 0 HS.out rfl rfl 183 (.tmp 0) rfl rfl _ Tryd.underlying183 rfl szTab ?_)
        | (refine wpList_store_st (cs := tabC 256) 0 HS.out rfl rfl 183 (.tmp 0) (.tmp 21) rfl rfl rfl szTab rfl (tabC_one _) ?_)
        | fail)
      intro w4 S4
      go_wp2_with fail
      exact post_cell 0 S4 rfl Tryd.results110 rfl _ Tryd.underlying183 rfl szTab rfl ⟨rfl, S4.below⟩

def cbyte (t : Int) (b : Int) : Int := bits BinOp.xor IntKind.u32 (t / 256) (csteps 8 (bits BinOp.xor IntKind.u8 (t % 256) b))
theorem cbyte_bd (t b : Int) : 0 ≤ cbyte t b ∧ cbyte t b < 4294967296 := by
  have h2 := bits_lo_u32 BinOp.xor (t / 256) (csteps 8 (bits BinOp.xor IntKind.u8 (t % 256) b))
  have h3 := bits_hi_u32 BinOp.xor (t / 256) (csteps 8 (bits BinOp.xor IntKind.u8 (t % 256) b))
  unfold cbyte
  omega

def cmore (t : Int) (l : List UInt8) : Int := l.foldl (fun t b => cbyte t (b.toNat : Int)) t
theorem cmore_bd {t : Int} (h0 : 0 ≤ t) (h1 : t < 4294967296) : ∀ l, 0 ≤ cmore t l ∧ cmore t l < 4294967296 := by
  intro l
  induction l generalizing t with
  | nil => exact ⟨h0, h1⟩
  | cons b l ih => exact ih (cbyte_bd _ _).1 (cbyte_bd _ _).2
theorem cmore_snoc (t : Int) (s : ByteArray) {k : Nat} (h : k < s.size) : cmore t (s.data.toList.take (k + 1)) = cbyte (cmore t (s.data.toList.take k)) (s[k].toNat : Int) := by
  unfold cmore
  rw [List.take_succ_eq_append_getElem (by simpa using h), List.foldl_append]
  rfl
def cnot (x : Int) : Int := bits BinOp.xor IntKind.u32 IntKind.u32.max x
theorem cnot_bd (x : Int) : 0 ≤ cnot x ∧ cnot x < 4294967296 := ⟨bits_lo_u32 _ _ _, by have := bits_hi_u32 BinOp.xor IntKind.u32.max x; unfold cnot; omega⟩
def crcI (t : Int) (s : ByteArray) : Int := cnot (cmore (cnot t) s.data.toList)

set_option maxRecDepth 100000 in
theorem more_any (t : Int) (s : ByteArray) (hs : s.size ≤ 140737488355328) (w : World) : Calls Tryd.prog 95 #[.int .u32 t, .string s] w (RetV (.int .u32 (crcI t s)) w) := by
  go_enter Tryd.func95, Tryd.ntmps95
  go_wp2_with fail
  refine (table_any _).mono ?_
  rintro e w1 ⟨rfl, hb1⟩
  have HS1 := Lib.hid ((St.of_below (ag_emp w) hb1).alloc (.cells (tabC 0) 183))
  clear hb1
  go_wp2_with (first
    | (refine wpList_store_st (cs := tabC 256) 0 HS1.out rfl rfl 183 (.tmp 5) (.tmp 7) rfl rfl rfl szTab rfl (tabC_one _) ?_)
    | fail)
  intro w2 S2
  have HS2 := Lib.hid S2
  clear S2 HS1
  go_wp2_with fail
  go_loopw [0, 12] (fun n i wr => ∃ k : Nat, i = .int .i64 k ∧ k ≤ s.size ∧ n = .int .u32 (cmore (cnot t) (s.data.toList.take k)) ∧ Hid (St empH w none_ empH wr [blk w1.heap.size (.cells (tabC 256) 183)])) (fun _ i _ => s.size - (intOf i).toNat)
  case atStart => exact ⟨0, rfl, by omega, rfl, HS2⟩
  case round =>
    clear HS2
    obtain ⟨k, rfl, hk, rfl, HS⟩ := hrel
    by_cases hlt : k < s.size
    · have hsn := Lib.hid (cmore_snoc (cnot t) s hlt)
      obtain ⟨hx0, hx1⟩ := cmore_bd (cnot_bd t).1 (cnot_bd t).2 (s.data.toList.take k)
      obtain ⟨x, hx⟩ : ∃ x, x = cmore (cnot t) (s.data.toList.take k) := ⟨_, rfl⟩
      rw [← hx] at hsn hx0 hx1 ⊢
      have HX := Lib.hid hx
      clear hx
      have hb0 := bits_lo_u8 BinOp.xor (x % 256) (s[k].toNat : Int)
      have hb1 := bits_hi_u8 BinOp.xor (x % 256) (s[k].toNat : Int)
      have hc2 : wr.cell? ⟨w1.heap.size, (bits BinOp.xor IntKind.u8 (x % 256) (s[k].toNat : Int)).toNat, none⟩ = some (.int .u32 (csteps 8 (bits BinOp.xor IntKind.u8 (x % 256) (s[k].toNat : Int)))) := by
        rw [HS.out.cell 0 rfl (tabC_at 256 (by omega)), if_pos (by omega), Int.toNat_of_nonneg hb0]
      go_wp2_with fail
      go_roundw
      case rel => exact ⟨k + 1, by go_num, by omega, by rw [hsn.out]; rfl, HS⟩
      case measure => simp [intOf]; omega
    · obtain rfl : k = s.size := by omega
      obtain ⟨hx0, hx1⟩ := cmore_bd (cnot_bd t).1 (cnot_bd t).2 (s.data.toList.take s.size)
      go_wp2_with fail
      go_ret
      rw [List.take_of_length_le (by simp)]
      exact ⟨rfl, HS.out.below⟩
theorem sum_any (s : ByteArray) (hs : s.size ≤ 140737488355328) (w : World) : Calls Tryd.prog 72 #[.string s] w (RetV (.int .u32 (crcI 0 s)) w) := by
  go_enter Tryd.func72, Tryd.ntmps72
  go_wp2_with fail
  refine (more_any 0 s hs _).mono ?_
  rintro e w1 ⟨rfl, hb1⟩
  go_wp2_with fail
  go_ret
  exact ⟨rfl, hb1⟩
end Go.Proofs.YtfphlkkhpccpnaaDoor
