/-
  PoolPlays.
-/
import Derived.Test.YtfphlkkhpccpnaaDoes
namespace Go.Proofs.Ytfphlkkhpccpnaa.K
open Go.RowKit
section
variable {H0 H : Hs} {w0 w : World} {X : Nat → Prop} {ps : List Hp}
/-- A whole, wherever it lies, loaded. -/
theorem wpList_loadAt {P : Program} {ops : Array Oper} {rest : List Oper} {o : Oper} {a : Act} {w : World} {Q : Exit → Act → World → Prop} {ad : Addr} {cs : Array Value}
    (hgd : o.guard = none) (ty : TypeId) (x : Operand) (ho : o.op = .load ty x) (hx : a.eval x = .pointer (some ad)) (d : TypeDesc)
    (hu : P.underlying ty = some d) (hd : (match d with | .struct _ | .array _ _ => true | _ => false) = true) (hs : (P.info? ty).map (·.size) = some cs.size) (hc : ∀ j u, cs[j]? = some u → w.cell? (ad.add j) = some u)
    (h : wpList P ops Q rest (a.put o.dst (.agg cs)) w) : wpList P ops Q (o :: rest) a w := by
  refine wpList_plain hgd fun K' hK => ?_
  have hr := run_loadVar_at (P := P) w ad ty cs d hc hu hd hs
  unfold Oper.wp execOp
  simp only [ho, hx, Instr.loadAt, Instr.sureAddr, Sem.run_bind, Sem.run_pure, Result.andThen_ok, hr]
  exact hK _ _ h
theorem step_loadOwn_st {P : Program} {ops : Array Oper} {o : Oper} {a : Act} {K : Act → World → Prop} {Q : Exit → Act → World → Prop} {E : Prop} {e size n g c q : Nat} {xs : List Value} {cs : Array Value} (i : Nat) (S : St H0 w0 X H w ps) (hi : ps[i]? = some (own e size (.slice (some ⟨g, 0, none⟩) n c) n xs))
    (hgd : o.guard = none) (ty : TypeId) (x : Operand) (ho : o.op = .load ty x) (hx : a.eval x = .pointer (some ⟨g, q, none⟩)) (d : TypeDesc)
    (hu : P.underlying ty = some d) (hd : (match d with | .struct _ | .array _ _ => true | _ => false) = true) (hs : (P.info? ty).map (·.size) = some cs.size) (hcs : ∀ j u, cs[j]? = some u → xs[q + j]? = some u)
    (h : K (a.put o.dst (.agg cs)) w) : if Region.wanted o (yielded ops a.tmps) = true then Oper.wp P o a w K Q else E := by
  rw [if_pos (by simp [Region.wanted, hgd])]
  have hr := run_loadVar_at (P := P) w ⟨g, q, none⟩ ty cs d (fun j u hj => by
    have h1 := hcs j u hj
    have hlen := (S.own_at i hi).1
    have hlt := (List.getElem?_eq_some_iff.1 h1).1
    rw [Addr.add_lit]
    exact (S.ownCell i hi (q + j) (by omega)).trans h1) hu hd hs
  unfold Oper.wp execOp
  simp only [ho, hx, Instr.loadAt, Instr.sureAddr, Sem.run_bind, Sem.run_pure, Result.andThen_ok, hr]
  exact h
end
end Go.Proofs.Ytfphlkkhpccpnaa.K
namespace Go.Proofs.Ytfphlkkhpccpnaa
open Go.RowKit Go.Proofs K
set_option linter.unusedVariables false

section
variable {H0 H : Hs} {w0 w : World} {X : Nat → Prop} {ps : List Hp} {p x : Nat}
theorem does_any {m : List (Ky × Value)} {l : List TxS} {d : List El} {A : Option Addr} {c : Nat} (S : St H0 w0 X H w (poolP p m :: blk x (refO (.slice A d.length c)) :: own 33 19 (.slice A d.length c) d.length (d.flatMap encEl) :: ps)) (hA : Alike l d) (hM : Txs H m l) (hD : ∀ y ∈ d, RepV H y.sl (accsD y.1.acc)) (hG : Good l)
    (u : Dd) (hu : u.fits) (s : Value) (hs : RepV H s (accsD u.t.acc)) :
    Calls Try.prog 13 #[.pointer (some ⟨p, 0, none⟩), .pointer (some ⟨x, 0, none⟩), .agg (u.cells s)] w (DoesS (u.step l) p x H0 H w0 X ps) := by
  by_cases h3 : u.kind % 12 = 3
  · exact does_remove S hA hM hD hG u hu s hs h3
  · by_cases h4 : u.kind % 12 = 4
    · exact does_get S hA hM hD hG u hu s hs h4
    · by_cases h5 : u.kind % 12 = 5
      · exact does_clear S hA hM hD hG u hu s hs h5
      · obtain ⟨A9, c9, _, rfl, _⟩ := hs.sl_inv
        cases hr : u.raw with
        | true => exact does_raw S hA hM hD hG u hu A9 c9 hs ⟨h3, h4, h5⟩ hr
        | false => exact does_made S hA hM hD hG u hu A9 c9 hs ⟨h3, h4, h5⟩ hr
end
/-- How deeds lie. -/
def plD (u : Dd) : List D := [.v (.int .u8 u.kind), .v (.int .u8 u.a), .v (.int .u8 u.n), .v (.int .i64 u.t.kind), .v (.string u.t.frm), .v (.string u.t.to), .v (.int .u64 u.t.nonce), .v (.int .u64 u.t.gas), .v (.int .u64 u.t.p.a), .v (.int .u64 u.t.p.b), .v (.int .u64 u.t.p.c), .v (.int .u64 u.t.p.d), .v (.int .u64 u.t.q.a), .v (.int .u64 u.t.q.b), .v (.int .u64 u.t.q.c), .v (.int .u64 u.t.q.d), .v (.int .u64 u.t.v.a), .v (.int .u64 u.t.v.b), .v (.int .u64 u.t.v.c), .v (.int .u64 u.t.v.d), .v (.string u.t.data), accsD u.t.acc, .v (.bool u.raw)]
def deedsD (l : List Dd) : D := .sl 23 l.length (l.flatMap plD)
theorem plD_length (u : Dd) : (plD u).length = 23 := rfl
/-- A deed, where it lies. -/
theorem deed_cells {H : Hs} {xs : List Value} {l : List Dd} (h : RepL H xs (l.flatMap plD)) {k : Nat} (hk : k < l.length) : ∃ s, RepV H s (accsD l[k].t.acc) ∧ ∀ j v, (l[k].cells s)[j]? = some v → xs[k * 23 + j]? = some v := by
  have g : ∀ {j : Nat} {d : D}, (plD l[k])[j]? = some d → ∃ y, xs[k * 23 + j]? = some y ∧ RepV H y d := fun {j d} hd => h.get (by
    rw [flat_get plD_length (List.getElem?_eq_getElem hk) (by have := (List.getElem?_eq_some_iff.1 hd).1; rw [plD_length] at this; exact this)]
    exact hd)
  obtain ⟨s, hs, hr⟩ := g (j := 21) rfl
  refine ⟨s, hr, fun j v hv => ?_⟩
  have hj : j < 23 := (Array.getElem?_eq_some_iff.1 hv).1
  have gp : ∀ {j : Nat} {y : Value}, (plD l[k])[j]? = some (.v y) → (l[k].cells s)[j]? = some y → (l[k].cells s)[j]? = some v → xs[k * 23 + j]? = some v := fun {j y} hd he hv => by
    obtain ⟨z, hz, hrz⟩ := g hd
    obtain ⟨rfl, _⟩ := hrz.plain_inv
    rw [he] at hv
    rw [hz, hv]
  rcases (by omega : j = 21 ∨ j = 0 ∨ j = 1 ∨ j = 2 ∨ j = 3 ∨ j = 4 ∨ j = 5 ∨ j = 6 ∨ j = 7 ∨ j = 8 ∨ j = 9 ∨ j = 10 ∨ j = 11 ∨ j = 12 ∨ j = 13 ∨ j = 14 ∨ j = 15 ∨ j = 16 ∨ j = 17 ∨ j = 18 ∨ j = 19 ∨ j = 20 ∨ j = 22) with e | e | e | e | e | e | e | e | e | e | e | e | e | e | e | e | e | e | e | e | e | e | e <;> subst e
  · cases hv; exact hs
  all_goals exact gp rfl rfl hv
theorem szDeed {u : Dd} {s : Value} : (Try.prog.info? 52).map (·.size) = some (u.cells s).size := by kernel_rfl
theorem good_nil : Good [] := ⟨by simp, by simp, by simp⟩
theorem Both.base {l : List TxS} {p x : Nat} {H0 H H1 : Hs} {w0 : World} {X : Nat → Prop} {ps : List Hp} {w' : World} (h : Both l p x H0 H1 w0 X ps w') (hl : Le H H1) : Both l p x H0 H w0 X ps w' := by
  obtain ⟨m, d, A, c, H', hle, h1, h2, h3, h4⟩ := h
  exact ⟨m, d, A, c, H', hl.trans hle, h1, h2, h3, h4⟩
theorem els_at {d : List El} {k : Nat} (h : k < d.length) : ∃ y, d[k]? = some y ∧ y ∈ d := ⟨d[k], List.getElem?_eq_getElem h, List.getElem_mem h⟩
end Go.Proofs.Ytfphlkkhpccpnaa
