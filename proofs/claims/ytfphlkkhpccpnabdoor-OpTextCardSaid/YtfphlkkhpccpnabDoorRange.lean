/-
  A range over a map: which entries are still to come.
-/
import Derived.Test.YtfphlkkhpccpnabDoorMap
import Derived.Maps.RangeRun
namespace Go.Proofs.YtfphlkkhpccpnabDoor.K
open Go.RowKit

section
set_option linter.unusedSectionVars false
set_option linter.unusedVariables false
variable {κ : Type} [DecidableEq κ]
variable {P : Program} {K : TypeId} {enc : κ → Value}
/-- A map that bears m, and a loop over it to which 'left' are still to come. -/
def iterP (enc : κ → Value) (r c : Nat) (m left : List (κ × Value)) : Hp :=
  ⟨fun F w => F r ∧ F c ∧ r ≠ c ∧ ∃ es clock since seen c0, w.heap[c]? = some (.map es clock) ∧ IsMap enc (.map es clock) m ∧ w.heap[r]? = some (.mapIter (some c) since seen c0) ∧ (∀ x ∈ es.toList, x.born < since) ∧ since ≤ c0 ∧ since ≤ clock ∧ Bears enc (leftOf es seen).toList left,
    fun h ⟨hr, hc, hne, es, clock, since, seen, c0, h1, h2, h3, h4⟩ => ⟨hr, hc, hne, es, clock, since, seen, c0, (h c hc).trans h1, h2, (h r hr).trans h3, h4⟩⟩

theorem filter_born : ∀ (L : List MapEntry) (j : Nat) (e : MapEntry), (L.map (·.born)).Nodup → L[j]? = some e → L.filter (fun x => !(x.born == e.born)) = L.eraseIdx j
  | [], j, e, _, h => by simp at h
  | x :: L, 0, e, hn, h => by
    cases h
    have h2 : x.born ∉ L.map (·.born) := (List.nodup_cons.1 hn).1
    rw [List.filter_cons]
    simp only [beq_self_eq_true, Bool.not_true, Bool.false_eq_true, if_false, List.eraseIdx_cons_zero]
    refine List.filter_eq_self.2 fun y hy => ?_
    have : y.born ≠ x.born := fun e => h2 (e ▸ List.mem_map.2 ⟨y, hy, rfl⟩)
    simpa using this
  | x :: L, j + 1, e, hn, h => by
    have hn' := List.nodup_cons.1 hn
    have hm : e ∈ L := List.mem_of_getElem? (by simpa using h)
    have hne : x.born ≠ e.born := fun e1 => hn'.1 (List.mem_map.2 ⟨e, hm, e1.symm⟩)
    have hb : (x.born == e.born) = false := by simpa using hne
    rw [List.filter_cons]
    simp only [hb, Bool.not_false, if_true, List.eraseIdx_cons_succ]
    rw [filter_born L j e hn'.2 (by simpa using h)]
theorem left_push (es : Array MapEntry) (seen : Array Nat) (j : Nat) (e : MapEntry) (hn : (es.toList.map (·.born)).Nodup) (hj : (leftOf es seen).toList[j]? = some e) : (leftOf es (seen.push e.born)).toList = (leftOf es seen).toList.eraseIdx j := by
  have hl : ∀ s, (leftOf es s).toList = es.toList.filter fun x => !s.contains x.born := fun s => by simp [leftOf]
  rw [← filter_born _ j e ?_ hj]
  · rw [hl, hl, List.filter_filter]
    refine List.filter_congr fun x _ => ?_
    rw [contains_push]
    cases seen.contains x.born <;> cases x.born == e.born <;> rfl
  · rw [hl]
    exact hn.sublist (List.filter_sublist.map _)
theorem Bears.get {es : List MapEntry} {m : List (κ × Value)} (h : Bears enc es m) {j : Nat} {e : MapEntry} (hj : es[j]? = some e) : ∃ x, m[j]? = some x ∧ e.key = enc x.1 ∧ e.val = x.2 := by
  have h1 := congrArg (fun l => l[j]?) h
  simp only [List.getElem?_map, hj, Option.map_some] at h1
  cases hx : m[j]? with
  | none => rw [hx] at h1; cases h1
  | some x =>
    rw [hx] at h1
    simp only [Option.map_some, Option.some.injEq, Prod.mk.injEq] at h1
    exact ⟨x, rfl, h1.1, h1.2⟩

section
variable {H0 H : Hs} {w0 w : World} {X : Nat → Prop} {ps : List Hp} {ops : Array Oper} {rest : List Oper} {o : Oper} {a : Act} {Q : Exit → Act → World → Prop} {r c : Nat} {m left : List (κ × Value)}
/-- How many are still to come, read off the world. -/
def iterLeft (w : World) (r c : Nat) : Nat :=
  match w.heap[c]?, w.heap[r]? with
  | some (.map es _), some (.mapIter _ _ seen _) => (leftOf es seen).size
  | _, _ => 0
theorem St.iterLeft_eq (h : St H0 w0 X H w ps) (i : Nat) (hi : ps[i]? = some (iterP enc r c m left)) : iterLeft w r c = left.length := by
  obtain ⟨F, ⟨_, _, _, es, clock, _, seen, _, h1, _, h3, _, _, _, hb⟩, _, _⟩ := h.step hi
  simp only [iterLeft, h1, h3]
  rw [← hb.len]
  simp
theorem St.endRange (h : St H0 w0 X H w ps) (i : Nat) (hi : ps[i]? = some (iterP enc r c m left)) : St H0 w0 X H w (mapP enc c m :: ps.eraseIdx i) :=
  h.see i hi fun F ⟨_, hc, _, es, clock, _, _, _, h1, h2, _⟩ => ⟨hc, _, h1, h2⟩
theorem wpList_range_st (i : Nat) (S : St H0 w0 X H w ps) (hi : ps[i]? = some (mapP enc c m)) {t e : TypeId} (ht : P.underlying t = some (.map K e))
    (hgd : o.guard = none) (x : Operand) (ho : o.op = .range t x) (hx : a.eval x = .map (some c))
    (h : ∀ w', St H0 w0 X H w' (iterP enc w.heap.size c m m :: ps.eraseIdx i) → wpList P ops Q rest (a.put o.dst (.pointer (some ⟨w.heap.size, 0, none⟩))) w') : wpList P ops Q (o :: rest) a w := by
  obtain ⟨F, ⟨hc, ob, hob, hm⟩, hF, k⟩ := S.step hi
  obtain ⟨es, clock, rfl, hb, hborn, hnd⟩ := hm.ex
  refine wpList_plain hgd fun K' hK => ?_
  unfold Oper.wp execOp
  simp only [ho, hx, Sem.run_bind, Sem.run_pure, Result.andThen_ok, run_range_map w t K e c es clock ht hob]
  refine hK _ _ (h _ ?_)
  have hlt : c < w.heap.size := (hF c hc).1
  have hold : (w.alloc (.mapIter (some c) clock #[] clock)).heap[c]? = some (.map es clock) := by rw [heap_alloc_old w _ hlt]; exact hob
  refine k H (w.alloc (.mapIter (some c) clock #[] clock)) [iterP enc w.heap.size c m m] ⟨rfl, rfl, rfl, by simp, fun k hk _ => Below.heap_alloc _ _ _ hk, Le.refl _, fun _ _ h => .inl h, ag_below S.ag ((Below.refl _ _).alloc (Nat.le_refl _) _), fun b => b = w.heap.size ∨ b = c, none_,
    ⟨.inl rfl, .inr rfl, by omega, es, clock, clock, #[], clock, hold, hm, heap_alloc_new w _, hborn, Nat.le_refl _, Nat.le_refl _, ?_⟩, ?_, fun _ h => h.elim, fun _ _ h => h, trivial⟩
  · have : leftOf es #[] = es := by
      unfold leftOf
      exact Array.filter_eq_self.2 fun x _ => by simp
    rw [this]
    exact hb
  · rintro b (rfl | rfl)
    · exact ⟨by simp, .inl (Nat.le_refl _), ag_none S.ag (Nat.le_refl _)⟩
    · exact ⟨by simp; omega, .inr hc, (hF b hc).2⟩
theorem wpList_next_st (i : Nat) (S : St H0 w0 X H w ps) (hi : ps[i]? = some (iterP enc r c m left))
    (hgd : o.guard = none) (x : Operand) (ho : o.op = .next x false) (hx : a.eval x = .pointer (some ⟨r, 0, none⟩))
    (hDone : left = [] → wpList P ops Q rest (a.put o.dst (.tuple #[.bool false])) w)
    (hMore : ∀ (y : κ × Value) (j : Nat) (w' : World), left[j]? = some y → St H0 w0 X H w' (iterP enc r c m (left.eraseIdx j) :: ps.eraseIdx i) → (Instr.entry (.pointer (some ⟨r, 0, none⟩))).run P w' = .ok (.tuple #[enc y.1, y.2]) w' →
      wpList P ops Q rest (a.put o.dst (.tuple #[.bool true, enc y.1, y.2])) w') : wpList P ops Q (o :: rest) a w := by
  obtain ⟨F, ⟨hr, hc, hne, es, clock, since, seen, c0, h1, hm, h3, hold, hsc, hsc', hb⟩, hF, k⟩ := S.step hi
  obtain ⟨es', clock', e1, _, _, hnd⟩ := hm.ex
  cases e1
  refine wpList_plain hgd fun K' hK => ?_
  unfold Oper.wp
  rcases run_next_at (P := P) w o.type r c since c0 seen es clock h3 h1 hold hsc with ⟨h0, hrun⟩ | ⟨e, he, w1, hal, hrun⟩
  · simp [execOp, ho, hx, hrun, Result.andThen]
    refine hK _ _ (hDone ?_)
    have : (leftOf es seen).toList = [] := List.eq_nil_of_length_eq_zero (by simpa using h0)
    rw [this] at hb
    exact hb.nil_inv
  · obtain ⟨j, hj⟩ := List.getElem?_of_mem he
    obtain ⟨y, hy, hk1, hk2⟩ := hb.get hj
    have hw1 : w1.heap = w.heap ∧ w1.os = w.os ∧ w1.tape = w.tape ∧ w1.output = w.output := by rcases hal with rfl | rfl <;> exact ⟨rfl, rfl, rfl, rfl⟩
    have hset := MapKept.heap_set (o' := .mapIter (some c) since (seen.push e.born) clock) (show w1.heap[r]? = some (.mapIter (some c) since seen c0) by rw [hw1.1]; exact h3)
    have hc' : (ChangeMaps.setBlock w1 r (.mapIter (some c) since (seen.push e.born) clock)).heap[c]? = some (.map es clock) := (hset.2 c (fun e1 => hne e1.symm)).trans (by rw [hw1.1]; exact h1)
    have hmem : e ∈ es.toList := (mem_left he).1
    have hen := run_entry_at (P := P) _ r c since seen es clock e hset.1 hc' hmem hnd
    rw [hk1, hk2] at hrun hen
    simp [execOp, ho, hx, hrun, Result.andThen]
    refine hK _ _ (hMore y j _ hy ?_ hen)
    refine k H _ [iterP enc r c m (left.eraseIdx j)] (St.wrote (w' := ChangeMaps.setBlock w1 r (.mapIter (some c) since (seen.push e.born) clock)) (q := iterP enc r c m (left.eraseIdx j)) S.ag hF hr hw1.2.1 hw1.2.2.1 hw1.2.2.2 ?_ (fun x hx => (hset.2 x hx).trans (by rw [hw1.1])) ?_)
    · show (w1.heap.setIfInBounds r _).size = _
      rw [Array.size_setIfInBounds, hw1.1]
    · refine ⟨hr, hc, hne, es, clock, since, _, clock, hc', hm, hset.1, hold, hsc', hsc', ?_⟩
      rw [left_push es seen j e hnd hj]
      exact hb.erase j
end
end
end Go.Proofs.YtfphlkkhpccpnabDoor.K
