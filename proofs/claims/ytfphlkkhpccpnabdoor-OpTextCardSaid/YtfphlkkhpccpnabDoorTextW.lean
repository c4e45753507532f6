/-
  OpText, on whatever is handed in.
-/
import Derived.Test.YtfphlkkhpccpnabDoorOpTx
import Derived.Test.YtfphlkkhpccpnabDoorArg
namespace Go.Proofs.YtfphlkkhpccpnabDoor
open Go.RowKit Go.Proofs K
set_option linter.unusedVariables false

set_option maxRecDepth 100000 in
theorem wf16 {a : Int} (h : (Lit.int .u16 a).wf = true) : ∃ n : Nat, a = n ∧ n < 65536 := by
  simp [Lit.wf, IntKind.min, IntKind.max, IntKind.signed, IntKind.bits] at h
  exact ⟨a.toNat, by omega, by omega⟩
theorem words_fit : ∀ {n : Nat} {ds : List D}, FitN ds n [.int .u16] → ∃ l : List Nat, l.length = n ∧ ds = (l.map w16V).map D.v ∧ ∀ x ∈ l, x < 65536
  | _, _, .nil => ⟨[], rfl, rfl, by simp⟩
  | _, _, .cons (.cons (.int (n := a) h) .nil) t => by
    obtain ⟨l, rfl, rfl, hl⟩ := words_fit t
    obtain ⟨m, rfl, hm⟩ := wf16 h
    refine ⟨m :: l, rfl, rfl, ?_⟩
    intro b hb
    rcases List.mem_cons.1 hb with rfl | hb
    · exact hm
    · exact hl b hb
theorem shapesWords : shapes Tryd.prog 4 27 = some [.sl 2 [.int .u16]] := by kernel_rfl
theorem tx_wf (wide : Bool) (A : Option Addr) (n c : Nat) (l : List Nat) (hx : ∀ x ∈ l, x < 65536) (hn : l.length = n) (hb : n * 2 ≤ reachBytes) (W : World) (h : W.ShapedOpen Tryd.prog) (hr : RepV (allOf W) (.slice A n c) (.sl 1 n ((l.map w16V).map D.v))) :
    Calls Tryd.prog 4 #[.slice A n c, .bool wide] W (RetV (.bool true) W) := by
  obtain ⟨A', c', cs, hv, hc, hA, hlen, hrow, hrep⟩ := hr.sl_inv
  cases hv
  have hcs := RepL.plain_inv hrep
  subst hcs
  subst hn
  have hb2 : l.length ≤ 140737488355328 := by
    have : reachBytes ≤ 140737488355328 := by decide
    omega
  refine tx_any wide A c l hc hb2 hA W (fun i x hi => ?_) hx (maxAt_shaped h)
  exact hrow.cell (ag_allOf W) (j := i) (u := w16V x) (by rw [List.getElem?_map, hi]; rfl)
end Go.Proofs.YtfphlkkhpccpnabDoor
