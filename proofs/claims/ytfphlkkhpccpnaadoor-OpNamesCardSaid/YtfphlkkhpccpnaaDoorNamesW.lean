/-
  OpNames, on whatever is handed in.
-/
import Derived.Test.YtfphlkkhpccpnaaDoorOpNames
import Derived.Test.YtfphlkkhpccpnaaDoorRowO
namespace Go.Proofs.YtfphlkkhpccpnaaDoor
open Go.RowKit Go.Proofs K

theorem names_wf {a b : Int} (ha : (Lit.int .u8 a).wf = true) (hb : (Lit.int .u8 b).wf = true) (W : World) (h : W.ShapedOpen Tryd.prog) : Calls Tryd.prog 10 #[.int .u8 a, .int .u8 b] W (RetV (.bool true) W) := by
  obtain ⟨n, rfl, hn⟩ := wf8 ha
  obtain ⟨m, rfl, hm⟩ := wf8 hb
  exact names_any n m hn hm W (maxAt_shaped h)
end Go.Proofs.YtfphlkkhpccpnaaDoor
