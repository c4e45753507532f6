/-
  each: goes through instructions.
-/
import Derived.Test.YtfphlkkhpccpnabDoorOpHex
import Derived.Test.YtfphlkkhpccpnabDoorPush
import Derived.Laws.ByValue
import Derived.Laws.DeepStrings4
namespace Go.Proofs.YtfphlkkhpccpnabDoor
open Go.RowKit Go.Proofs K
set_option linter.unusedVariables false

/-- Where the next instruction begins. -/
def pushB8 (b : UInt8) : Nat := if b.toNat < 95 ∨ 127 < b.toNat then 0 else b.toNat - 95
def nextI (l : List UInt8) (i : Nat) : Nat := min (i + 1 + pushB8 (l.getD i 0)) l.length
def eachF {β : Type} (f : Nat → List β) (l : List UInt8) : Nat → Nat → List β
  | 0, _ => []
  | n + 1, i => if i < l.length then f i ++ eachF f l n (nextI l i) else []
def eachL {β : Type} (f : Nat → List β) (l : List UInt8) (i : Nat) : List β := eachF f l (l.length - i) i
theorem nextI_gt {l : List UInt8} {i : Nat} (h : i < l.length) : i < nextI l i := by unfold nextI; omega
theorem nextI_le (l : List UInt8) (i : Nat) : nextI l i ≤ l.length := Nat.min_le_right _ _
theorem eachF_more {β : Type} (f : Nat → List β) (l : List UInt8) : ∀ (n m i : Nat), l.length - i ≤ n → l.length - i ≤ m → eachF f l n i = eachF f l m i
  | 0, m, i, h1, h2 => by
    cases m with
    | zero => rfl
    | succ m => unfold eachF; rw [if_neg (by omega)]
  | n + 1, 0, i, h1, h2 => by unfold eachF; rw [if_neg (by omega)]
  | n + 1, m + 1, i, h1, h2 => by
    unfold eachF
    split
    · rename_i h
      have := nextI_gt h
      rw [eachF_more f l n m (nextI l i) (by omega) (by omega)]
    · rfl
theorem eachL_step {β : Type} (f : Nat → List β) {l : List UInt8} {i : Nat} (h : i < l.length) : eachL f l i = f i ++ eachL f l (nextI l i) := by
  unfold eachL
  obtain ⟨n, hn⟩ : ∃ n, l.length - i = n + 1 := ⟨l.length - i - 1, by omega⟩
  rw [hn, eachF, if_pos h]
  have := nextI_gt h
  rw [eachF_more f l n (l.length - nextI l i) (nextI l i) (by omega) (Nat.le_refl _)]
theorem eachL_end {β : Type} (f : Nat → List β) (l : List UInt8) : eachL f l l.length = [] := by
  unfold eachL
  rw [Nat.sub_self]
  rfl
theorem eachL_len {β : Type} (f : Nat → List β) (hf : ∀ i, (f i).length ≤ 1) (l : List UInt8) : ∀ (n i : Nat), l.length - i = n → (eachL f l i).length ≤ n := by
  intro n
  induction n using Nat.strongRecOn with
  | ind n ih =>
    intro i hn
    by_cases h : i < l.length
    · rw [eachL_step f h, List.length_append]
      have h1 := nextI_gt h
      have h2 := ih (l.length - nextI l i) (by omega) (nextI l i) rfl
      have := hf i
      omega
    · unfold eachL
      rw [show l.length - i = 0 by omega]
      simp [eachF]
theorem pushN_b (b : UInt8) : pushN b.toNat = (pushB8 b : Int) := by
  unfold pushN pushB8
  by_cases h : b.toNat < 95 ∨ 127 < b.toNat
  · rw [if_pos h, if_pos (by omega)]; rfl
  · rw [if_neg h, if_neg (by omega)]; omega
theorem bs_at {l : List UInt8} {k : Nat} (h : k < (bs l).size) : (bs l)[k] = l.getD k 0 := by
  have h2 : k < l.length := by rwa [bs_size] at h
  rw [List.getD_eq_getElem?_getD, List.getElem?_eq_getElem h2, Option.getD_some]
  rfl
def EachP (I : Nat → World → Prop) (n : Nat) (e : Ending) (w' : World) : Prop := e = .returned (.tuple #[]) ∧ I n w'
set_option maxRecDepth 100000 in
set_option maxHeartbeats 4000000 in
theorem each_any (f : FuncId) (hcf : ∀ args w, (callFunc f args).run Tryd.prog w = .ok (.enter f args) w) (caps : Array Value) (l : List UInt8) (hl : l.length ≤ 1000) (I : Nat → World → Prop)
    (hstep : ∀ i w, i < l.length → I i w → Calls Tryd.prog f (#[.int .i64 i, .string ((bs l).extract (i + 1) (nextI l i))] ++ caps) w (EachP I (nextI l i))) (w : World) (h0 : I 0 w) :
    Calls Tryd.prog 11 #[.string (bs l), .func (.func f) #[] caps] w (EachP I l.length) := by
  have HST := Lib.hid hstep
  have H0 := Lib.hid h0
  have hsz : (bs l).size = l.length := bs_size l
  clear hstep h0
  go_enter Tryd.func11, Tryd.ntmps11
  go_wp2_with fail
  go_loopw [4] (fun i wr => ∃ k : Nat, i = .int .i64 k ∧ k ≤ l.length ∧ Hid (I k wr)) (fun i _ => l.length - (intOf i).toNat)
  case atStart => exact ⟨0, rfl, Nat.zero_le _, H0⟩
  case round =>
    clear H0
    obtain ⟨k, rfl, hk, HI⟩ := hrel
    by_cases hlt : k < l.length
    · have HC := Lib.hid (HST.out k wr hlt HI.out)
      obtain ⟨q, hq⟩ : ∃ q, q = pushB8 (l.getD k 0) := ⟨_, rfl⟩
      have hq32 : q ≤ 32 := by rw [hq]; unfold pushB8; split <;> omega
      have hk2 : k < (bs l).size := by rw [hsz]; exact hlt
      obtain ⟨B, hB⟩ : ∃ B, B = pushB ((bs l)[k].toNat : Int) := ⟨_, rfl⟩
      have HP : Hid (∀ w, Calls Tryd.prog 10 #[.int .u8 ((bs l)[k].toNat : Int)] w (fun e w' => e = .returned (.tuple #[.int .i64 (q : Int), .bool B]) ∧ w = w')) := Lib.hid fun w => by
        have h8 := (bs l)[k].toNat_lt
        have := push_any ((bs l)[k].toNat : Int) (by omega) (by omega) w
        unfold PushP at this
        rw [pushN_b, bs_at hk2, ← hq] at this
        rw [hB, bs_at hk2]
        exact this
      clear hB
      have HN := Lib.hid (show nextI l k = min (k + 1 + q) l.length by unfold nextI; rw [← hq])
      clear hq
      go_wp2_with fail
      refine (HP.out _).mono ?_
      rintro e w2 ⟨rfl, rfl⟩
      by_cases hm : k + 1 + q ≤ l.length
      · have HNE : Hid (nextI l k = k + 1 + q) := Lib.hid (by rw [HN.out]; exact Nat.min_eq_left hm)
        rw [HNE.out] at HC
        go_wp2_with fail
        refine HC.out.mono ?_
        rintro e w3 ⟨rfl, h3⟩
        have H3 := Lib.hid h3
        clear h3
        go_wp2_with fail
        go_roundw
        case rel => exact ⟨k + 1 + q, by go_num, by omega, H3⟩
        case measure => simp [intOf]; omega
      · have HNE : Hid (nextI l k = l.length) := Lib.hid (by rw [HN.out]; exact Nat.min_eq_right (by omega))
        rw [HNE.out] at HC
        go_wp2_with fail
        refine HC.out.mono ?_
        rintro e w3 ⟨rfl, h3⟩
        have H3 := Lib.hid h3
        clear h3
        go_wp2_with fail
        go_roundw
        case rel => exact ⟨l.length, by go_num, by omega, H3⟩
        case measure => simp [intOf]; omega
    · obtain rfl : k = l.length := by omega
      go_wp2_with fail
      go_end0
      exact ⟨rfl, HI.out⟩
theorem callJ : ∀ args w, (callFunc 12 args).run Tryd.prog w = .ok (.enter 12 args) w := fun _ _ => by kernel_rfl
theorem callT : ∀ args w, (callFunc 14 args).run Tryd.prog w = .ok (.enter 14 args) w := fun _ _ => by kernel_rfl
end Go.Proofs.YtfphlkkhpccpnabDoor
