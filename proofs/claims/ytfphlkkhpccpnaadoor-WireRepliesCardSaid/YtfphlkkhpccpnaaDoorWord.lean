/-
  Words: cut, join.
-/
import Derived.Test.YtfphlkkhpccpnaaDoorProg
import Derived.Test.YtfphlkkhpccpnaaDoorK
import Derived.KernelRfl
import Derived.Outline
namespace Go.Proofs.YtfphlkkhpccpnaaDoor
open Go.RowKit Go.Proofs K

/-- A value is handed back, all old memory is as it was. -/
def RetV (v : Value) (w : World) (e : Ending) (w' : World) : Prop := e = .returned v ∧ Below w.heap.size w w'
theorem cut_any (a b c d : Int) (w : World) : Calls Tryd.prog 86 #[.agg #[.int .u64 a, .int .u64 b, .int .u64 c, .int .u64 d]] w (RetV (.agg #[.int .u64 d, .int .u64 c, .int .u64 b, .int .u64 a]) w) := by
  go_enter Tryd.func86, Tryd.ntmps86
  go_wp2
  exact bodyPost_ret (v := .agg #[.int .u64 d, .int .u64 c, .int .u64 b, .int .u64 a]) (by simp [results, Tryd.results86, go_sem]) rfl ⟨rfl, ((Below.refl _ _).alloc (Nat.le_refl _) _).alloc (by simp) _⟩
theorem join_any (a b c d : Int) (w : World) : Calls Tryd.prog 98 #[.agg #[.int .u64 a, .int .u64 b, .int .u64 c, .int .u64 d]] w (RetV (.agg #[.int .u64 d, .int .u64 c, .int .u64 b, .int .u64 a]) w) := by
  go_enter Tryd.func98, Tryd.ntmps98
  go_wp2
  exact bodyPost_ret (v := .agg #[.int .u64 d, .int .u64 c, .int .u64 b, .int .u64 a]) (by simp [results, Tryd.results98, go_sem]) rfl ⟨rfl, ((Below.refl _ _).alloc (Nat.le_refl _) _).alloc (by simp) _⟩
end Go.Proofs.YtfphlkkhpccpnaaDoor
