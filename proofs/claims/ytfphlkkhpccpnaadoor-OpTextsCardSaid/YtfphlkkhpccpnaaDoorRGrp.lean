/-
  The document's chapter 12: digits, group.
-/
import Derived.Test.YtfphlkkhpccpnaaDoorOpJumps
import Derived.Test.YtfphlkkhpccpnaaDoorOpGr
import Derived.Test.YtfphlkkhpccpnaaDoorApp
import Derived.Laws.BytesArg
import Derived.Deep.RegionLaw
namespace Go.Proofs.YtfphlkkhpccpnaaDoor
open Go.RowKit Go.Proofs K
set_option linter.unusedVariables false

theorem str_dig1 {n : Nat} (h : n < 10) : strOfNums [48 + (n : Int)] = bs (dig n) := by
  rcases (by omega : n = 0 ∨ n = 1 ∨ n = 2 ∨ n = 3 ∨ n = 4 ∨ n = 5 ∨ n = 6 ∨ n = 7 ∨ n = 8 ∨ n = 9) with e | e | e | e | e | e | e | e | e | e <;> subst e <;> decide +kernel
theorem str_dig2 : ∀ n : Fin 100, ¬ n.val < 10 → strOfNums [48 + ((n.val / 10 : Nat) : Int), 48 + ((n.val % 10 : Nat) : Int)] = bs (dig n.val) := by decide +kernel
set_option maxRecDepth 100000 in
theorem digits_any (n : Nat) (hn : n < 100) (w : World) : Calls Tryd.prog 83 #[.int .i64 n] w (RetV (.string (bs (dig n))) w) := by
  by_cases h : n < 10
  · have HD := Lib.hid (str_dig1 h)
    have hconv := run_convert_bytes_arg (P := Tryd.prog) (w.alloc (.cells #[.int .u8 (48 + (n : Int))] 5)) 33 5 Tryd.underlying33 Tryd.underlying5 w.heap.size 0 1 1 [48 + (n : Int)] rfl (fun i hi => by
      obtain rfl : i = 0 := by omega
      rw [cell_of_row _ _ _ _ _ _ (heap_alloc_new w _)]
      rfl) 9 Tryd.underlying9
    go_enter Tryd.func83, Tryd.ntmps83
    go_wp2_with fail
    go_ret
    exact ⟨by rw [← HD.out]; rfl, (Below.refl _ _).alloc (Nat.le_refl _) _⟩
  · have HD := Lib.hid (str_dig2 ⟨n, hn⟩ h)
    have hconv := run_convert_bytes_arg (P := Tryd.prog) (w.alloc (.cells #[.int .u8 (48 + ((n / 10 : Nat) : Int)), .int .u8 (48 + ((n % 10 : Nat) : Int))] 5)) 33 5 Tryd.underlying33 Tryd.underlying5 w.heap.size 0 2 2 [48 + ((n / 10 : Nat) : Int), 48 + ((n % 10 : Nat) : Int)] rfl (fun i hi => by
      rw [cell_of_row _ _ _ _ _ _ (heap_alloc_new w _)]
      rcases (by omega : i = 0 ∨ i = 1) with rfl | rfl <;> rfl) 9 Tryd.underlying9
    simp only [Int.natCast_ediv, Int.natCast_emod, Int.cast_ofNat_Int] at hconv
    go_enter Tryd.func83, Tryd.ntmps83
    go_wp2_with fail
    go_ret
    exact ⟨by rw [← HD.out]; rfl, (Below.refl _ _).alloc (Nat.le_refl _) _⟩
/-- An operation's row, as the document lays it. -/
def rowC (e : OpE) : List Value := [.int .i64 e.1, .string (bs e.2.1), .int .u64 e.2.2.1, .int .i64 e.2.2.2.1, .int .i64 e.2.2.2.2]
def rowsC (l : List OpE) : List Value := l.flatMap rowC
theorem rowsC_len (l : List OpE) : (rowsC l).length = l.length * 5 := flat_length (f := rowC) (fun _ => rfl) l
theorem rowC_one (e : OpE) : ∀ u ∈ rowC e, u.oneCell' = true := by
  intro u hu
  simp only [rowC, List.mem_cons, List.mem_nil_iff, or_false] at hu
  rcases hu with rfl | rfl | rfl | rfl | rfl <;> rfl
theorem rowsC_one (l : List OpE) : ∀ u ∈ rowsC l, u.oneCell' = true := by
  intro u hu
  obtain ⟨x, _, h⟩ := List.mem_flatMap.1 hu
  exact rowC_one x u h
theorem rowsC_app (l m : List OpE) : rowsC (l ++ m) = rowsC l ++ rowsC m := List.flatMap_append
def grpR (cs : List Nat) (ns : List (List UInt8)) (g i o : Nat) : List OpE := (cs.zip ns).map fun x => (x.1, x.2, g, i, o)
theorem infoRow : (Tryd.prog.info? 113).map (fun i => (i.zero, i.size, i.bytes)) = some (some (.agg #[.int .i64 0, .string .empty, .int .u64 0, .int .i64 0, .int .i64 0]), 5, 48) := by kernel_rfl
def RowsP (l : List OpE) (w : World) (e : Ending) (w' : World) : Prop := ∃ v, e = .returned v ∧ St empH w none_ empH w' [own 113 5 v l.length (rowsC l)]
set_option maxRecDepth 100000 in
set_option maxHeartbeats 4000000 in
theorem group_any (cs : List Nat) (ns : List (List UInt8)) (g i o : Nat) (hl : ns.length = cs.length) (h100 : cs.length ≤ 100) (w : World) (p q : Nat) (hp : w.heap[p]? = some (.cells (cs.map intV).toArray 3)) (hq : w.heap[q]? = some (.cells (ns.map fun s => Value.string (bs s)).toArray 9)) :
    Calls Tryd.prog 82 #[.slice (some ⟨p, 0, none⟩) cs.length cs.length, .slice (some ⟨q, 0, none⟩) cs.length cs.length, .int .u64 g, .int .i64 i, .int .i64 o] w (RowsP (grpR cs ns g i o) w) := by
  obtain ⟨i0, hi0, hz0, hz1, hz2⟩ := info_parts infoRow
  have HS0 : Hid (St empH w none_ empH w [own 113 5 (.slice none 0 0) 0 []]) := Lib.hid (St.start (ag_emp w)).own_nil
  have HP := Lib.hid hp
  have HQ := Lib.hid hq
  have HL := Lib.hid hl
  clear hp hq hl
  go_enter Tryd.func82, Tryd.ntmps82
  go_wp2_with fail
  go_loopw [11, 12] (fun v z wr => ∃ k : Nat, z = .int .i64 k ∧ k ≤ cs.length ∧ ∃ A c, v = .slice A k c ∧ Hid (St empH w none_ empH wr [own 113 5 (.slice A k c) k (rowsC ((grpR cs ns g i o).take k))])) (fun _ z _ => cs.length - (intOf z).toNat)
  case atStart => exact ⟨0, rfl, Nat.zero_le _, none, 0, rfl, HS0⟩
  case round =>
    clear HS0
    obtain ⟨k, rfl, hk, A, c, rfl, HS⟩ := hrel
    by_cases hlt : k < cs.length
    · have hltn : k < ns.length := by rw [HL.out]; exact hlt
      have c1 : wr.cell? ⟨p, k, none⟩ = some (.int .i64 (cs[k] : Nat)) := by
        rw [cell_of_row _ _ _ _ _ _ ((HS.out.below.block p (Array.getElem?_eq_some_iff.1 HP.out).1).trans HP.out)]
        simp [hlt, intV]
      have c2 : wr.cell? ⟨q, k, none⟩ = some (.string (bs ns[k])) := by
        rw [cell_of_row _ _ _ _ _ _ ((HS.out.below.block q (Array.getElem?_eq_some_iff.1 HQ.out).1).trans HQ.out)]
        simp [hltn]
      have HT : Hid ((grpR cs ns g i o).take (k + 1) = (grpR cs ns g i o).take k ++ [(cs[k], ns[k], g, i, o)]) := Lib.hid (by
        have : k < (grpR cs ns g i o).length := by unfold grpR; rw [List.length_map, List.length_zip]; omega
        rw [List.take_succ_eq_append_getElem this]
        have e : (grpR cs ns g i o)[k] = (cs[k], ns[k], g, i, o) := by simp [grpR]
        rw [e])
      generalize cs[k] = x at c1 HT
      generalize ns[k] = y at c2 HT
      go_wp2_with fail
      have HS1 := Lib.hid ((HS.out.alloc (.cells #[.int .i64 (x : Nat), .string (bs y), .int .u64 g, .int .i64 i, .int .i64 o] 113)).drew)
      go_region_law (first
        | (refine step_append_st 1 113 HS1.out rfl rfl (.tmp 19) (.tmp 33) 110 rfl i0 _ 48 Tryd.underlying110 hi0 hz0 hz1 hz2 rfl (by decide) rfl ⟨wr.heap.size, 0, none⟩ 1 1 (rowC (x, y, g, i, o)) rfl rfl (fun j u hj => ?_) (rowC_one _) ?_ ?_ ?_; (rw [Addr.add_lit, Nat.zero_add, cell_of_row _ _ _ _ _ _ (HS1.out.blk_at 0 rfl)]; simpa [rowC] using hj); (unfold maxLen; omega); omega; intro A3 c3 w6 S10; have HS10 := Lib.hid S10; clear S10))
      all_goals
        have HS2 : Hid (St empH w none_ empH w6 [own 113 5 (.slice A3 (k + 1) c3) (k + 1) (rowsC ((grpR cs ns g i o).take (k + 1)))]) := Lib.hid (by
          have h := HS10.out.drop 1
          rw [HT.out, rowsC_app]
          simpa [rowsC] using h)
        clear HS10 HS1 HS
        go_wp2_with fail
        go_roundw
        case rel => exact ⟨k + 1, by go_num, by omega, A3, c3, rfl, HS2⟩
        case measure => simp [intOf]; omega
    · obtain rfl : k = cs.length := by omega
      have HF : Hid (St empH w none_ empH wr [own 113 5 (.slice A cs.length c) cs.length (rowsC (grpR cs ns g i o))]) := Lib.hid (by
        have h2 : (grpR cs ns g i o).length = cs.length := by unfold grpR; rw [List.length_map, List.length_zip]; have := HL.out; omega
        have := HS.out
        rwa [List.take_of_length_le (by omega)] at this)
      clear HS
      go_wp2_with fail
      go_ret
      have h2 : (grpR cs ns g i o).length = cs.length := by unfold grpR; rw [List.length_map, List.length_zip]; have := HL.out; omega
      exact ⟨_, rfl, by rw [h2]; exact HF.out⟩
end Go.Proofs.YtfphlkkhpccpnaaDoor
