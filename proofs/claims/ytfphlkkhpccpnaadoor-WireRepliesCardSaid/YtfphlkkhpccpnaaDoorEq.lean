/-
  A struct is itself.
-/
import Derived.Test.YtfphlkkhpccpnaaDoorRepR0
import Derived.Test.YtfphlkkhpccpnaaDoorAskR
import Derived.Laws.StructEq
import Derived.BigFrame
namespace Go.Proofs.YtfphlkkhpccpnaaDoor
open Go.RowKit Go.Proofs K

theorem eqWord (a b c d : Int) (n : Nat) (w : World) : (Op.equalIn (n + 2) 24 (.agg #[.int .u64 a, .int .u64 b, .int .u64 c, .int .u64 d]) (.agg #[.int .u64 a, .int .u64 b, .int .u64 c, .int .u64 d])).run Tryd.prog w = .ok true w := by
  have hf : Tryd.prog.underlying 24 = some (.struct (Tryd.prog.fieldsOf 24)) := by kernel_rfl
  have hp : Tryd.prog.stoodInHeld 24 = false := by kernel_rfl
  rw [run_equalIn_struct _ _ _ _ _ hf hp]
  simp [Program.fieldsOf, Tryd.underlying24, Op.eqFields, part, go_sem]
theorem eqAsk (id : Int) (s : ByteArray) (a b c d k : Int) (n : Nat) (w : World) : (Op.equalIn (n + 3) 26 (.agg (askC id s a b c d k)) (.agg (askC id s a b c d k))).run Tryd.prog w = .ok true w := by
  have hf : Tryd.prog.underlying 26 = some (.struct (Tryd.prog.fieldsOf 26)) := by kernel_rfl
  have hp : Tryd.prog.stoodInHeld 26 = false := by kernel_rfl
  rw [run_equalIn_struct _ _ _ _ _ hf hp]
  simp [Program.fieldsOf, Tryd.underlying26, Op.eqFields, part, go_sem, askC, eqWord]
theorem eqAskB (id : Int) (s : ByteArray) (a b c d k : Int) (w : World) : (binOp .eql 26 (.agg (askC id s a b c d k)) (.agg (askC id s a b c d k))).run Tryd.prog w = .ok (.bool true) w := by
  have h := eqAsk id s a b c d k 9997 w
  simp only [binOp, Op.equal, Op.maxDepth, Sem.run_bind]
  rw [h]
  rfl
theorem eqAcc (n a b c d : Int) (s : ByteArray) (m : Nat) (w : World) : (Op.equalIn (m + 3) 40 (.agg #[.int .u64 n, .int .u64 a, .int .u64 b, .int .u64 c, .int .u64 d, .string s]) (.agg #[.int .u64 n, .int .u64 a, .int .u64 b, .int .u64 c, .int .u64 d, .string s])).run Tryd.prog w = .ok true w := by
  have hf : Tryd.prog.underlying 40 = some (.struct (Tryd.prog.fieldsOf 40)) := by kernel_rfl
  have hp : Tryd.prog.stoodInHeld 40 = false := by kernel_rfl
  rw [run_equalIn_struct _ _ _ _ _ hf hp]
  simp [Program.fieldsOf, Tryd.underlying40, Op.eqFields, part, go_sem, eqWord]
theorem eqReply (id n a b c d : Int) (s : ByteArray) (e f g h : Int) (m : Nat) (w : World) : (Op.equalIn (m + 4) 42 (.agg (replyC id n a b c d s e f g h)) (.agg (replyC id n a b c d s e f g h))).run Tryd.prog w = .ok true w := by
  have hf : Tryd.prog.underlying 42 = some (.struct (Tryd.prog.fieldsOf 42)) := by kernel_rfl
  have hp : Tryd.prog.stoodInHeld 42 = false := by kernel_rfl
  rw [run_equalIn_struct _ _ _ _ _ hf hp]
  simp [Program.fieldsOf, Tryd.underlying42, Op.eqFields, part, go_sem, replyC, eqWord, eqAcc]
theorem eqReplyB (id n a b c d : Int) (s : ByteArray) (e f g h : Int) (w : World) : (binOp .eql 42 (.agg (replyC id n a b c d s e f g h)) (.agg (replyC id n a b c d s e f g h))).run Tryd.prog w = .ok (.bool true) w := by
  have h' := eqReply id n a b c d s e f g h 9996 w
  simp only [binOp, Op.equal, Op.maxDepth, Sem.run_bind]
  rw [h']
  rfl
end Go.Proofs.YtfphlkkhpccpnaaDoor
