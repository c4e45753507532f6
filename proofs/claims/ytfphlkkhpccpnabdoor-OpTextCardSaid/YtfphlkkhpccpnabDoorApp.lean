/-
  'append' onto an own row, of cells that lie anywhere, or of none.
-/
import Derived.Test.YtfphlkkhpccpnabDoorK
namespace Go.Proofs.YtfphlkkhpccpnabDoor.K
open Go.RowKit
section
variable {H0 H : Hs} {w0 w : World} {X : Nat → Prop} {ps : List Hp}
/-- 'append' onto an own row, of cells that lie anywhere, or of none. -/
theorem wpList_append_any {P : Program} {ops : Array Oper} {rest : List Oper} {o : Oper} {a : Act} {Q : Exit → Act → World → Prop} {size n : Nat} {v : Value} {xs : List Value} (i : Nat) (e : TypeId) (S : St H0 w0 X H w ps) (hi : ps[i]? = some (own e size v n xs))
    (hgd : o.guard = none) (s x : Operand) (t : TypeId) (ho : o.op = .call { callee := .builtin .append, args := #[s, x], argTypes := #[t, t] }) (inf : TypeInfo) (z : Value) (bytes : Nat)
    (ht : P.underlying t = some (.slice e)) (hinf : P.info? e = some inf) (hz : inf.zero = some z) (hsize : inf.size = size) (hby : inf.bytes = bytes) (hzs : z.cells.size = size) (hsz : 0 < size)
    (hs : a.eval s = v) (A : Option Addr) (m c : Nat) (news : List Value) (hx : a.eval x = .slice A m c) (hA : A = none → m = 0 ∧ c = 0) (hl : news.length = m * size) (hnews : ∀ ad, A = some ad → ∀ j u, news[j]? = some u → w.cell? (ad.add j) = some u) (h1 : ∀ u ∈ news, u.oneCell' = true)
    (h63 : n + m ≤ maxLen) (hbytes : (n + m) * bytes ≤ 140737488355328)
    (h : ∀ A c w', St H0 w0 X H w' (own e size (.slice A (n + m) c) (n + m) (xs ++ news) :: ps.eraseIdx i) → wpList P ops Q rest (a.put o.dst (.slice A (n + m) c)) w') : wpList P ops Q (o :: rest) a w := by
  rcases A with _ | ad
  · obtain ⟨rfl, rfl⟩ := hA rfl
    obtain rfl : news = [] := List.eq_nil_of_length_eq_zero (by omega)
    exact wpList_append_opt (Ha := empH) i e S hi hgd s x t ho inf z bytes ht hinf hz hsize hby hzs hsz hs none 0 0 [] hx (fun _ => rfl) (.inl rfl) (ag_emp _) (by simp) h1 h63 hbytes h
  · exact wpList_append_st i e S hi hgd s x t ho inf z bytes ht hinf hz hsize hby hzs hsz hs ad m c news hx hl (hnews ad rfl) h1 h63 hbytes h
/-- 'append' onto an own row, at a step of a region that draws its order. -/
theorem step_append_st {P : Program} {ops : Array Oper} {o : Oper} {a : Act} {K : Act → World → Prop} {Q : Exit → Act → World → Prop} {E : Prop} {size n : Nat} {v : Value} {xs : List Value} (i : Nat) (e : TypeId) (S : St H0 w0 X H w ps) (hi : ps[i]? = some (own e size v n xs))
    (hgd : o.guard = none) (s x : Operand) (t : TypeId) (ho : o.op = .call { callee := .builtin .append, args := #[s, x], argTypes := #[t, t] }) (inf : TypeInfo) (z : Value) (bytes : Nat)
    (ht : P.underlying t = some (.slice e)) (hinf : P.info? e = some inf) (hz : inf.zero = some z) (hsize : inf.size = size) (hby : inf.bytes = bytes) (hzs : z.cells.size = size) (hsz : 0 < size)
    (hs : a.eval s = v) (ad : Addr) (m c : Nat) (news : List Value) (hx : a.eval x = .slice (some ad) m c) (hl : news.length = m * size) (hnews : ∀ j u, news[j]? = some u → w.cell? (ad.add j) = some u) (h1 : ∀ u ∈ news, u.oneCell' = true)
    (h63 : n + m ≤ maxLen) (hbytes : (n + m) * bytes ≤ 140737488355328)
    (h : ∀ A c w', St H0 w0 X H w' (own e size (.slice A (n + m) c) (n + m) (xs ++ news) :: ps.eraseIdx i) → K (a.put o.dst (.slice A (n + m) c)) w') : if Region.wanted o (yielded ops a.tmps) = true then Oper.wp P o a w K Q else E := by
  rw [if_pos (by simp [Region.wanted, hgd])]
  obtain ⟨v', w', hr, ho', hg, _, hb⟩ := run_append_own_at (P := P) w 0 t o.type e inf z size bytes ht hinf hz hsize hby hzs hsz v n xs (S.own_at i hi) ad m c news hl hnews h1 h63 hbytes (Nat.zero_le _)
  have S' := S.appended i hi ho' hg hb
  unfold Oper.wp execOp
  simp only [ho, resolve, invoke, builtin, Sem.run_bind, Sem.run_pure, Result.andThen_ok, List.map_toArray, List.map_cons, List.map_nil, hs, hx, hr]
  rcases ho'.2 with ⟨rfl, h0⟩ | ⟨g, cap, cur, rfl, _⟩
  · rw [h0] at S' h; exact h _ _ _ S'
  · exact h _ _ _ S'
end
end Go.Proofs.YtfphlkkhpccpnabDoor.K
