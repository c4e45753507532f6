/-
  The table of operations, as it is laid group by group: plain.
-/
import Derived.Test.YtfphlkkhpccpnabDoorOpM
import Derived.Test.YtfphlkkhpccpnabDoorBase
import Derived.Lib.Split
import Derived.Lib.ItoaNum
namespace Go.Proofs.YtfphlkkhpccpnabDoor
open Go.RowKit Go.Proofs K
set_option linter.unusedVariables false

/-- A text's pieces, between its spaces. -/
def spl : List UInt8 → List (List UInt8)
  | [] => [[]]
  | b :: l => if b = 32 then [] :: spl l else match spl l with
    | [] => [[b]]
    | x :: r => (b :: x) :: r
abbrev Grp := Nat × Nat × Nat × List UInt8
def grp (k : Nat) : Grp := opG.getD k (0, 0, 0, [])
def pcs (k : Nat) : List (List UInt8) := spl (grp k).2.2.2
def offs (k : Nat) : Nat := ((opG.take k).map fun g => (spl g.2.2.2).length / 2).sum
def hexB (b : UInt8) : Bool := (decide (48 ≤ b.toNat) && decide (b.toNat ≤ 57)) || (decide (97 ≤ b.toNat) && decide (b.toNat ≤ 102))
def hxD (b : UInt8) : Nat := if b.toNat ≤ 57 then b.toNat - 48 else b.toNat - 87
def hxV (l : List UInt8) : Nat := l.foldl (fun n b => n * 16 + hxD b) 0
theorem opG_len : opG.length = 24 := by decide +kernel
theorem splitsK : ∀ k : Fin 24, Lib.splitK [32] 0 ((pcs k).length - 1) (grp k).2.2.2 = pcs k := by decide +kernel
theorem bs_list (s : ByteArray) : bs s.data.toList = s := rfl
theorem counts : ∀ k : Fin 24, Lib.countB (bs (grp k).2.2.2) ⟨#[32]⟩ + 1 = (pcs k).length ∧ (pcs k).length % 2 = 0 ∧ (pcs k).length ≤ 40 ∧ offs (k + 1) = offs k + (pcs k).length / 2 ∧ (grp k).2.2.2.length ≤ 300 ∧ (grp k).1 ≤ 32000 ∧ (grp k).2.1 ≤ 20 ∧ (grp k).2.2.1 ≤ 20 := by decide +kernel
theorem splits (k : Fin 24) : Lib.splitB ⟨#[32]⟩ 0 (Lib.countB (bs (grp k).2.2.2) ⟨#[32]⟩) (bs (grp k).2.2.2) = (pcs k).map bs := by
  have hc : Lib.countB (bs (grp k).2.2.2) ⟨#[32]⟩ = (pcs k).length - 1 := by have := (counts k).1; omega
  rw [hc]
  have hK := splitsK k
  have := Lib.splitB_data ⟨#[32]⟩ 0 ((pcs k).length - 1) (bs (grp k).2.2.2)
  have e : (bs (grp k).2.2.2).data.toList = (grp k).2.2.2 := rfl
  have e2 : (⟨#[32]⟩ : ByteArray).data.toList = [32] := rfl
  rw [e, e2] at this
  have h2 : (pcs k).map bs = ((Lib.splitB ⟨#[32]⟩ 0 ((pcs k).length - 1) (bs (grp k).2.2.2)).map (·.data.toList)).map bs := by rw [this, hK]
  rw [h2, List.map_map]
  exact (List.map_id' _).symm
theorem offs_end : offs 24 = 75 := by decide +kernel
theorem entries : ∀ k : Fin 24, ∀ j : Fin 20, 2 * j.val + 1 < (pcs k).length → opL[offs k + j]? = some (hxV ((pcs k).getD (2 * j) []), (pcs k).getD (2 * j + 1) [], (grp k).1, (grp k).2.1, (grp k).2.2.1) ∧ ((pcs k).getD (2 * j) []).length = 2 ∧ ((pcs k).getD (2 * j) []).all hexB = true ∧ hxV ((pcs k).getD (2 * j) []) < 256 := by decide +kernel
def dig (n : Nat) : List UInt8 := if n < 10 then [UInt8.ofNat (48 + n)] else [UInt8.ofNat (48 + n / 10), UInt8.ofNat (48 + n % 10)]
theorem dec_dig {n : Nat} (h : n < 100) : Lib.decDigits n = dig n := by
  unfold dig
  rw [Lib.decDigits]
  split
  · rfl
  · rw [Lib.decDigits, dif_pos (by omega)]
    rfl
theorem entry_push : ∀ n : Fin 32, opL[75 + n.val]? = some (96 + n.val, [80, 85, 83, 72] ++ dig (n.val + 1), 3, 0, 1) := by decide +kernel
theorem entry_dup : ∀ n : Fin 16, opL[107 + 2 * n.val]? = some (128 + n.val, [68, 85, 80] ++ dig (n.val + 1), 3, n.val + 1, n.val + 2) := by decide +kernel
theorem entry_swap : ∀ n : Fin 16, opL[107 + 2 * n.val + 1]? = some (144 + n.val, [83, 87, 65, 80] ++ dig (n.val + 1), 3, n.val + 2, n.val + 2) := by decide +kernel
theorem entry_log : ∀ n : Fin 5, opL[139 + n.val]? = some (160 + n.val, [76, 79, 71] ++ dig n.val, 375, n.val + 2, 0) := by decide +kernel
theorem put_next {i : Nat} {e : OpE} (h : opL[i]? = some e) : put (opM.take i) (e.1 : Int) (.agg (opC e)) = opM.take (i + 1) := by
  have hm : opM[i]? = some ((e.1 : Int), Value.agg (opC e)) := by unfold opM; rw [List.getElem?_map, h]; rfl
  have hn : (opM.take i).findIdx? (fun x => decide (x.1 = (e.1 : Int))) = none := by
    rw [List.findIdx?_eq_none_iff]
    intro x hx
    obtain ⟨j, hj, hj2⟩ := List.getElem_of_mem hx
    rw [List.length_take] at hj
    rw [List.getElem_take] at hj2
    have hjL : j < opL.length := by unfold opM at hj; rw [List.length_map] at hj; omega
    have hiL : i < opL.length := (List.getElem?_eq_some_iff.1 h).1
    have e1 : x.1 = ((opL[j]).1 : Int) := by rw [← hj2]; unfold opM; rw [List.getElem_map]
    have e2 : opL[i] = e := (List.getElem?_eq_some_iff.1 h).2
    rw [decide_eq_false_iff_not, e1, ← e2]
    intro hq
    have hq' : (opL.map (·.1))[j]'(by simpa using hjL) = (opL.map (·.1))[i]'(by simpa using hiL) := by
      rw [List.getElem_map, List.getElem_map]
      exact Int.ofNat.inj hq
    have := (List.getElem_inj opL_codes).1 hq'
    omega
  unfold put
  rw [hn, List.take_add_one, hm]
  rfl
theorem opM_all : opM.take 144 = opM := List.take_of_length_le (by unfold opM; rw [List.length_map, opL_len]; exact Nat.le_refl _)
/-- The groups, as they lie. -/
def gcell (g : Grp) : List Value := [.int .u64 g.1, .int .i64 g.2.1, .int .i64 g.2.2.1, .string (bs g.2.2.2)]
def grpC : Array Value := (opG.flatMap gcell).toArray
theorem grpC_at {k j : Nat} (hk : k < 24) (hj : j < 4) : grpC[k * 4 + j]? = (gcell (grp k))[j]? := by
  unfold grpC
  rw [List.getElem?_toArray, flat_get (f := gcell) (s := 4) (fun _ => rfl) (x := grp k) ?_ hj]
  unfold grp
  rw [List.getD_eq_getElem?_getD, List.getElem?_eq_getElem (show k < opG.length by rw [opG_len]; exact hk)]
  rfl
set_option maxRecDepth 100000 in
set_option maxHeartbeats 8000000 in
theorem alike_any (w : World) : Calls Tryd.prog 16 #[] w (fun e w' => e = .returned (.slice (some ⟨w.heap.size, 0, none⟩) 24 24) ∧ w' = w.alloc (.cells grpC 50)) := by
  go_enter Tryd.func16, Tryd.ntmps16
  go_wp2_with fail
  go_ret
  exact ⟨rfl, by kernel_rfl⟩
end Go.Proofs.YtfphlkkhpccpnabDoor
