/-
  A struct stored into the middle of a block that one has.
-/
import Derived.Test.YtfphlkkhpccpnaaDoorK
import Derived.Deep.MidRow
namespace Go.Proofs.YtfphlkkhpccpnaaDoor
open Go.RowKit Go.Proofs K
namespace K
section
variable {H0 H : Hs} {w0 w : World} {X : Nat → Prop} {ps : List Hp}
def setL (cs : Array Value) (o : Nat) : List Value → Array Value
  | [] => cs
  | v :: r => setL (cs.setIfInBounds o v) (o + 1) r
theorem St.setCells {b : Nat} {t : TypeId} {fr : Nat × Nat} : ∀ (vs : List Value) (o : Nat) (w : World) (ps : List Hp) (cs : Array Value) (_ : St H0 w0 X H w ps) (i : Nat) (_ : ps[i]? = some (blk b (.cells cs t fr))),
    St H0 w0 X H (w.setCells b o vs) (blk b (.cells (setL cs o vs) t fr) :: ps.eraseIdx i)
  | [], o, w, ps, cs, h, i, hi => by
    have := h.pick i hi
    exact this
  | v :: r, o, w, ps, cs, h, i, hi => by
    have := St.setCells r (o + 1) _ _ _ (h.setCell (j := o) i hi v) 0 rfl
    exact this
theorem wpList_mid_st {P : Program} {ops : Array Oper} {rest : List Oper} {op : Oper} {a : Act} {Q : Exit → Act → World → Prop} {b : Nat} {cs old : Array Value} {t : TypeId} (i : Nat) (S : St H0 w0 X H w ps) (hi : ps[i]? = some (blk b (.cells old t (0, 0))))
    (hgd : op.guard = none) (ty : TypeId) (x y : Operand) (ho : op.op = .store ty x y) (o : Nat) (hx : a.eval x = .pointer (some ⟨b, o, none⟩)) (hy : a.eval y = .agg cs)
    (hs : (P.info? ty).map (·.size) = some cs.size) (hold : o + cs.size ≤ old.size) (h1 : cs.all (·.oneCell') = true)
    (h : ∀ w', St H0 w0 X H w' (blk b (.cells (setL old o cs.toList) t (0, 0)) :: ps.eraseIdx i) → wpList P ops Q rest (a.put op.dst undef) w') : wpList P ops Q (op :: rest) a w := by
  refine wpList_store_mid hgd ty x y ho b o cs hx hy (fun j hj => ⟨?_, S.frozen i hi _⟩) hs h1 (h _ (St.setCells cs.toList o w ps old S i hi))
  rw [S.cell i hi (j := o + j) (v := old[o + j]'(by omega)) (by simp)]
  rfl
end
end K
end Go.Proofs.YtfphlkkhpccpnaaDoor
