/-
  Arms for operations under guards.
-/
import Derived.Test.YtfphlkkhpccpnabDoorK
import Derived.BigFrame
namespace Go.Proofs.YtfphlkkhpccpnabDoor
open Go.RowKit Go.Proofs K

/-- A whole block loaded, under a guard that says yes. -/
theorem wpList_load_gd {H0 H : Hs} {w0 w : World} {X : Nat → Prop} {ps : List Hp} {P : Program} {ops : Array Oper} {rest : List Oper} {o : Oper} {a : Act} {Q : Exit → Act → World → Prop} {b : Nat} {cs : Array Value} {t : TypeId} {fr : Nat × Nat} (i : Nat) (S : St H0 w0 X H w ps) (hi : ps[i]? = some (blk b (.cells cs t fr)))
    (ty : TypeId) (x : Operand) (ho : o.op = .load ty x) (hx : a.eval x = .pointer (some ⟨b, 0, none⟩)) (d : TypeDesc)
    (hu : P.underlying ty = some d) (hd : (match d with | .struct _ | .array _ _ => true | _ => false) = true) (hs : (P.info? ty).map (·.size) = some cs.size) (hw : Region.wanted o (yielded ops a.tmps) = true)
    (h : wpList P ops Q rest (a.put o.dst (.agg cs)) w) : wpList P ops Q (o :: rest) a w :=
  BigFrame.wpList_want hw fun _ hK => wp_load_row ty x ho b hx t cs fr d (S.blk_at i hi) hu hd hs (hK _ _ h)
theorem wpList_bin {P : Program} {ops : Array Oper} {rest : List Oper} {o : Oper} {a : Act} {w : World} {Q : Exit → Act → World → Prop} (bo : BinOp) (ty ty2 : TypeId) (x y : Operand) (ho : o.op = .binOp bo ty x y ty2) (hw : Region.wanted o (yielded ops a.tmps) = true) (v : Value)
    (hg : (eqGuard bo ty x y (a.eval x) (a.eval y)).run P w = .ok () w) (hrun : (binOp bo ty (a.eval x) (a.eval y)).run P w = .ok v w) (h : wpList P ops Q rest (a.put o.dst v) w) : wpList P ops Q (o :: rest) a w := by
  refine BigFrame.wpList_want hw fun _ hK => ?_
  unfold Oper.wp execOp
  simp only [ho, Sem.run_bind, hg, hrun, Result.andThen_ok, Sem.run_pure]
  exact hK _ _ h
end Go.Proofs.YtfphlkkhpccpnabDoor
