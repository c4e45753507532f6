/-
  The map of operations, as a part of memory; Of, on what All tells.
-/
import Derived.Test.YtfphlkkhpccpnabDoorOpTab
import Derived.Test.YtfphlkkhpccpnabDoorMap
import Derived.Test.YtfphlkkhpccpnabDoorPush
import Derived.Laws.StructEq
namespace Go.Proofs.YtfphlkkhpccpnabDoor
open Go.RowKit Go.Proofs K
set_option linter.unusedVariables false

def encU8 (k : Int) : Value := .int .u8 k
theorem chk_int8 {P : Program} {w : World} {t : TypeId} {q : IntKind} (hu : P.underlying t = some (.int q)) (b : Bool) (n : Nat) (v : Value) : (Instr.checkKey b (n + 1) t v).run P w = .ok () w := by
  unfold Instr.checkKey
  rw [Sem.run_bind, run_underlying hu]
  rfl
theorem keyU8 : KeyOk Tryd.prog 5 encU8 where
  eq := fun x y w => by
    have h1 : (x == y) = decide (x = y) := rfl
    rw [← h1]
    simp [encU8, Op.equal, Op.maxDepth, go_sem]
  chk := fun x b w => chk_int8 Tryd.underlying5 b _ _
  now := ⟨_, Tryd.underlying5, .inr fun x y => by simp [encU8, Instr.sameNow]; rfl⟩
  stay := fun x => by simp [encU8, Instr.sameBits]
/-- What is known of an operation, as it lies. -/
def opC (e : OpE) : Array Value := #[.string ⟨e.2.1.toArray⟩, .int .u64 e.2.2.1, .int .i64 e.2.2.2.1, .int .i64 e.2.2.2.2]
def opZ : Array Value := #[.string ⟨#[]⟩, .int .u64 0, .int .i64 0, .int .i64 0]
def opM : List (Int × Value) := opL.map fun e => ((e.1 : Int), .agg (opC e))
/-- A number lies in the variable that strings.Index asks. -/
def MaxAt (w : World) : Prop := ∃ m, w.cell? ⟨2, 0, none⟩ = some (.int .i64 m)
theorem MaxAt.later {w w' : World} (h : MaxAt w) (hb : Below w.heap.size w w') : MaxAt w' := by
  obtain ⟨m, hm⟩ := h
  refine ⟨m, ?_⟩
  rw [← hm]
  refine hb.cell (p := ⟨_, 0, none⟩) ?_
  by_cases hlt : 2 < w.heap.size
  · exact hlt
  · rw [World.cell?] at hm
    simp [Array.getElem?_eq_none (show w.heap.size ≤ 2 by omega)] at hm
def AllP (w : World) (e : Ending) (w' : World) : Prop := ∃ c, e = .returned (.map (some c)) ∧ St empH w none_ empH w' [mapP encU8 c opM]
theorem opM_look (c : Nat) : mlook opM (c : Int) = (opOf c).map fun e => Value.agg (opC e) := by
  unfold mlook opM opOf
  rw [List.find?_map]
  generalize opL = l
  induction l with
  | nil => rfl
  | cons x l ih =>
    rw [List.find?_cons, List.find?_cons]
    have e : ((fun y : Int × Value => decide (y.1 = (c : Int))) ∘ fun e : OpE => ((e.1 : Int), Value.agg (opC e))) x = (x.1 == c) := by
      show decide ((x.1 : Int) = (c : Int)) = _
      rw [Bool.eq_iff_iff]
      simp
      omega
    rw [e]
    cases x.1 == c with
    | true => rfl
    | false => exact ih
end Go.Proofs.YtfphlkkhpccpnabDoor
