/-
  Small words: a value that is handed back; texts as bytes; a text's bytes in a new row.
-/
import Derived.Test.YtfphlkkhpccpnabDoorProg
import Derived.Test.YtfphlkkhpccpnabDoorK
import Derived.KernelRfl
import Derived.Outline
import Derived.IntWalk
import Derived.Lib.ConvBytes
import Derived.Lib.UnsafeStr
namespace Go.Proofs.YtfphlkkhpccpnabDoor
open Go.RowKit Go.Proofs K
set_option linter.unusedVariables false

/-- A value is handed back, all old memory is as it was. -/
def RetV (v : Value) (w : World) (e : Ending) (w' : World) : Prop := e = .returned v ∧ Below w.heap.size w w'
def bs (l : List UInt8) : ByteArray := ⟨l.toArray⟩
theorem bs_size (l : List UInt8) : (bs l).size = l.length := by simp [bs, ByteArray.size]
theorem below_bytes (w : World) (e : TypeId) (s : ByteArray) : Below w.heap.size w (Lib.bytesWorld w e s) :=
  Lib.below_freeze ((Below.drew (Below.refl _ w)).alloc (Nat.le_refl _) _) (p := ⟨w.heap.size, _, none⟩) (Nat.le_refl _) 1
theorem made_below {H : Hs} {w w' : World} (hw : Ag H w) (hb : Below w.heap.size w w') {o : Obj} (ho : w'.heap[w.heap.size]? = some o) : St H w none_ H w' [blk w.heap.size o] :=
  ⟨hb.os, hb.tape, hb.output, hb.size, fun k hk _ => hb.block k hk, Le.refl _, fun _ _ h => .inl h, ag_below hw hb,
    fun b => b = w.heap.size, none_, ⟨rfl, ho⟩, fun b hb => ⟨by subst hb; exact (Array.getElem?_eq_some_iff.1 ho).1, .inl (by subst hb; exact Nat.le_refl _), by subst hb; exact ag_none hw (Nat.le_refl _)⟩, fun _ h => h.elim, fun _ _ h => h, trivial⟩
/-- A text's bytes in a new row, some room behind them. -/
def bytesO (l : List UInt8) (r : Nat) : Obj := .cells ((l.map fun b => Value.int .u8 b.toNat).toArray ++ Array.replicate r (.int .u8 0)) 5 (l.length + r, l.length + r + 1)
theorem bytes_st {H0 H : Hs} {w0 w : World} {X : Nat → Prop} {ps : List Hp} (S : St H0 w0 X H w ps) (s : ByteArray) : ∃ r, St H0 w0 X H (Lib.bytesWorld w 5 s) (blk w.heap.size (bytesO s.data.toList r) :: ps) := by
  refine ⟨grownCap w s.size 0 5 - s.size, S.more (made_below S.ag (below_bytes w 5 s) ?_)⟩
  rw [Lib.bytesWorld_at_new]
  have hs : s.data.size = s.data.toList.length := by simp
  have e : Lib.bytesCells w 5 s = (s.data.toList.map fun b => Value.int .u8 b.toNat).toArray ++ Array.replicate (grownCap w s.size 0 5 - s.size) (.int .u8 0) := by
    unfold Lib.bytesCells
    congr 1
    apply Array.toList_inj.1
    simp
  unfold bytesO
  rw [e]
  simp
theorem bytesO_at {l : List UInt8} {r j : Nat} (h : j < l.length) : ((l.map fun b => Value.int .u8 b.toNat).toArray ++ Array.replicate r (Value.int .u8 0))[j]? = some (.int .u8 (l.getD j 0).toNat) := by
  rw [Array.getElem?_append_left (by simpa using h)]
  simp [h]
end Go.Proofs.YtfphlkkhpccpnabDoor
