/-
  How many bytes follow a code.
-/
import Derived.Test.YtfphlkkhpccpnabDoorK
import Derived.Test.YtfphlkkhpccpnabDoorProg
import Derived.Outline
import Derived.KernelRfl
import Derived.IntWalk
namespace Go.Proofs.YtfphlkkhpccpnabDoor
open Go.RowKit Go.Proofs K

def pushN (c : Int) : Int := if c < 95 ∨ 127 < c then 0 else c - 95
def pushB (c : Int) : Bool := decide (95 ≤ c) && decide (c ≤ 127)
theorem push_no {c : Int} (h : c < 95 ∨ 127 < c) : pushN c = 0 ∧ pushB c = false := by
  unfold pushN pushB
  rw [if_pos h]
  refine ⟨rfl, ?_⟩
  rcases h with h | h
  · rw [decide_eq_false (by omega)]; rfl
  · rw [decide_eq_false (show ¬ c ≤ 127 by omega), Bool.and_false]
theorem push_yes {c : Int} (h : 95 ≤ c) (h2 : c ≤ 127) : pushN c = c - 95 ∧ pushB c = true := by
  unfold pushN pushB
  rw [if_neg (by omega), decide_eq_true h, decide_eq_true h2]
  exact ⟨rfl, rfl⟩
def PushP (c : Int) (w : World) (e : Ending) (w' : World) : Prop := e = .returned (.tuple #[.int .i64 (pushN c), .bool (pushB c)]) ∧ w = w'
theorem push_any (c : Int) (h0 : 0 ≤ c) (h1 : c < 256) (w : World) : Calls Tryd.prog 10 #[.int .u8 c] w (PushP c w) := by
  rcases (by omega : c < 95 ∨ (95 ≤ c ∧ c ≤ 127) ∨ 127 < c) with h | h | h
  · have HF := Lib.hid (push_no (.inl h))
    go_enter Tryd.func10, Tryd.ntmps10
    go_wp2_with fail
    go_ret2
    exact ⟨by rw [HF.out.1, HF.out.2]; rfl, rfl⟩
  · have HF := Lib.hid (push_yes h.1 h.2)
    obtain ⟨ha, hb⟩ := h
    have hn : ¬ c < 95 := by omega
    have hm : ¬ 127 < c := by omega
    go_enter Tryd.func10, Tryd.ntmps10
    go_wp2_with fail
    go_ret2
    exact ⟨by rw [HF.out.1, HF.out.2]; rfl, rfl⟩
  · have HF := Lib.hid (push_no (.inr h))
    have hn : ¬ c < 95 := by omega
    go_enter Tryd.func10, Tryd.ntmps10
    go_wp2_with fail
    go_ret2
    exact ⟨by rw [HF.out.1, HF.out.2]; rfl, rfl⟩
end Go.Proofs.YtfphlkkhpccpnabDoor
