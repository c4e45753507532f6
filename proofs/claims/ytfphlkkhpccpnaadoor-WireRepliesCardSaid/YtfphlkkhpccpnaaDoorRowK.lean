/-
  Arguments of the door's rows; a world in which the listed variables lie.
-/
import Derived.Test.YtfphlkkhpccpnaaDoorRows
import Derived.Test.YtfphlkkhpccpnaaDoorTie
import Derived.Test.YtfphlkkhpccpnaaDoorArg
import Derived.Test.YtfphlkkhpccpnaaDoorWordB
import Derived.Lib.LaidIn
import Derived.Lib.LaidU8T
import Derived.Deep.DeepHandedRow
import Derived.Deep.DeepWitnessRowRef
import Derived.WalkKit
import Derived.ProofKit
import Derived.SizedLaws
import Derived.OpenShut
import Derived.ShutString
import Derived.ChangeOld
import Derived.Below
namespace Go.Proofs.YtfphlkkhpccpnaaDoor
open Go.ChangeShapes Go.WideShapes Go.ChangeAt Go.RowKit K
open Go.ChangeMaps (open_string shut_string)
set_option linter.unusedVariables false

theorem ownR : ownKnob Tryd.prog.godebug = none := by kernel_rfl
theorem laidOutR : laidOutB Tryd.prog = true := by kernel_rfl
/-- The settled world, the two variables holding what their initialisers lay. -/
noncomputable def laidWorld (os : Os) : World :=
  let w0 := World.holding Tryd.prog os ⟨#[], #[], []⟩
  let put (h : Array Obj) (g : Nat) (cs : Array Value) : Array Obj := h.modify g fun
    | .cells _ t frozen => .cells cs t frozen
    | o => o
  let h1 := put w0.heap 4 (Lib.firstTab.map fun z => Value.int .u8 z).toArray
  let h2 := put h1 5 ((List.range 16).flatMap fun i => [Value.int .u8 (Lib.accLo i), Value.int .u8 (Lib.accHi i)]).toArray
  { w0 with heap := h2 }
def laid2 : List (String × DataW Unit) := [("unicode/utf8.acceptRanges", Rows.laid_unicode_utf8_acceptRanges), ("unicode/utf8.first", Rows.laid_unicode_utf8_first)]
theorem laid_met (os : Os) (args : Array Value) : laidMet Tryd.prog laid2 ((laidWorld os).forCall (fun _ _ => 0) ⟨#[], args, []⟩).memory :=
  (LaidIn.of_run (l := laid2) [5, 4] 8 (by kernel_rfl) (by kernel_rfl) (by kernel_rfl) (by kernel_rfl)).met
theorem shapesWord : shapes Tryd.prog 4 24 = some [.int .u64, .int .u64, .int .u64, .int .u64] := by kernel_rfl
theorem cellsWord : Tryd.prog.cellsOf 24 = 4 := by kernel_rfl
set_option maxRecDepth 100000 in
theorem wf64 {a : Int} (h : (Lit.int .u64 a).wf = true) : W64 a := by
  simp [Lit.wf, IntKind.min, IntKind.max, IntKind.signed, IntKind.bits] at h
  unfold W64
  omega
set_option maxRecDepth 100000 in
/-- A word among what a call is given. -/
theorem word_arg {H : Type} {enc : TypeId × Value → H} {W : World} {base : Nat} {r : Reach} {v : Value} {d : DataW H} {p : List MemPlace} (hv : Value.okWide Tryd.prog W r base 24 v) (h : DataW.Trod enc Tryd.prog W 0 (fun _ => true) true 24 v d p)
    (hsz : (d.weights Tryd.prog 24).all (· ≤ reachBytes) = true) : ∃ a b c e, v = .agg #[.int .u64 a, .int .u64 b, .int .u64 c, .int .u64 e] ∧ W64 a ∧ W64 b ∧ W64 c ∧ W64 e := by
  obtain ⟨cs, rfl, hs⟩ := okWide_struct Tryd.underlying24 hv
  obtain ⟨m, hm⟩ := h
  obtain ⟨ds, hr, hf⟩ := reads_shapes enc Tryd.prog W 0 true 4 24 _ shapesWord m _ _ hm hsz
  have hlist : (Value.agg cs).cells.toList = cs.toList := rfl
  cases hf with
  | cons h1 t => cases t with
    | cons h2 t => cases t with
      | cons h3 t => cases t with
        | cons h4 t =>
          cases t
          cases h1 with
          | int w1 => cases h2 with
            | int w2 => cases h3 with
              | int w3 => cases h4 with
                | int w4 =>
                  refine ⟨_, _, _, _, ?_, wf64 w1, wf64 w2, wf64 w3, wf64 w4⟩
                  congr 1
                  apply Array.toList_inj.1
                  rw [hlist] at hr
                  generalize cs.toList = l at hr ⊢
                  cases hr with
                  | cons r1 t => cases t with
                    | cons r2 t => cases t with
                      | cons r3 t => cases t with
                        | cons r4 t =>
                          cases t
                          cases r1; cases r2; cases r3; cases r4
                          simp_all
end Go.Proofs.YtfphlkkhpccpnaaDoor
