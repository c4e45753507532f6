/-
  What is told.
-/
import Derived.Test.YtfphlkkhpccpnaaDoorAskR
namespace Go.Proofs.YtfphlkkhpccpnaaDoor
open Go.RowKit Go.Proofs K

def replyC (id nonce a b c d : Int) (code : ByteArray) (e f g h : Int) : Array Value := #[.int .u64 id, .int .u64 nonce, .int .u64 a, .int .u64 b, .int .u64 c, .int .u64 d, .string code, .int .u64 e, .int .u64 f, .int .u64 g, .int .u64 h]
def zReply : Array Value := replyC 0 0 0 0 0 0 ⟨#[]⟩ 0 0 0 0
def replyR (kind : Int) (l : List It) : Option (Array Value × List It) :=
  (numR l).bind fun x =>
    if kind = 2 then (txtR 32 x.2).map fun s => (replyC x.1 0 0 0 0 0 ⟨#[]⟩ (ofL s.1 s.1.size 3) (ofL s.1 s.1.size 2) (ofL s.1 s.1.size 1) (ofL s.1 s.1.size 0), s.2)
    else (numR x.2).bind fun y => (txtR 32 y.2).bind fun s => (txtR (-1) s.2).bind fun t =>
      if 24576 < t.1.size then none else some (replyC x.1 y.1 (ofL s.1 s.1.size 3) (ofL s.1 s.1.size 2) (ofL s.1 s.1.size 1) (ofL s.1 s.1.size 0) t.1 0 0 0 0, t.2)
theorem szReply : (Tryd.prog.info? 42).map (·.size) = some 11 := by kernel_rfl
theorem oneReply (id nonce a b c d : Int) (code : ByteArray) (e f g h : Int) : (replyC id nonce a b c d code e f g h).all (·.oneCell') = true := by simp [replyC, Value.oneCell']
end Go.Proofs.YtfphlkkhpccpnaaDoor
