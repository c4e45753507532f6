/-
  A range over a map: which entries are still to come.
  A range over a map that is not turned meanwhile: all old memory is as it was.
  Used, Read: a disk is looked at.
  Read, New: of a disk.
  Records: four, number, Frame, one.
  Records: Frames, All.
-/
import Derived.Test.YtdnpobjokajigaaGreatDoorPart1
import Derived.Maps.RangeRun
import Derived.Test.YtdnpobjokajigaaGreatDoorPart11
import Derived.Laws.BytesArg
import Derived.WalkSpells
import Derived.Test.YtdnpobjokajigaaGreatDoorPart7
import Derived.Deep.RegionHeld3
import Derived.Deep.DrawnRows
namespace Go.Proofs.YtdnpobjokajigaaGreatDoor.K
open Go.RowKit

section
set_option linter.unusedSectionVars false
set_option linter.unusedVariables false
variable {κ : Type} [DecidableEq κ]
variable {P : Program} {K : TypeId} {enc : κ → Value}
/-- A map that bears m, and a loop over it to which 'left' are still to come. -/
def iterP (enc : κ → Value) (r c : Nat) (m left : List (κ × Value)) : Hp :=
  ⟨fun F w => F r ∧ F c ∧ r ≠ c ∧ ∃ es clock since seen c0, w.heap[c]? = some (.map es clock) ∧ IsMap enc (.map es clock) m ∧ w.heap[r]? = some (.mapIter (some c) since seen c0) ∧ (∀ x ∈ es.toList, x.born < since) ∧ since ≤ c0 ∧ since ≤ clock ∧ Bears enc (leftOf es seen).toList left,
    fun h ⟨hr, hc, hne, es, clock, since, seen, c0, h1, h2, h3, h4⟩ => ⟨hr, hc, hne, es, clock, since, seen, c0, (h c hc).trans h1, h2, (h r hr).trans h3, h4⟩⟩

theorem filter_born : ∀ (L : List MapEntry) (j : Nat) (e : MapEntry), (L.map (·.born)).Nodup → L[j]? = some e → L.filter (fun x => !(x.born == e.born)) = L.eraseIdx j
  | [], j, e, _, h => by simp at h
  | x :: L, 0, e, hn, h => by
    cases h
    have h2 : x.born ∉ L.map (·.born) := (List.nodup_cons.1 hn).1
    rw [List.filter_cons]
    simp only [beq_self_eq_true, Bool.not_true, Bool.false_eq_true, if_false, List.eraseIdx_cons_zero]
    refine List.filter_eq_self.2 fun y hy => ?_
    have : y.born ≠ x.born := fun e => h2 (e ▸ List.mem_map.2 ⟨y, hy, rfl⟩)
    simpa using this
  | x :: L, j + 1, e, hn, h => by
    have hn' := List.nodup_cons.1 hn
    have hm : e ∈ L := List.mem_of_getElem? (by simpa using h)
    have hne : x.born ≠ e.born := fun e1 => hn'.1 (List.mem_map.2 ⟨e, hm, e1.symm⟩)
    have hb : (x.born == e.born) = false := by simpa using hne
    rw [List.filter_cons]
    simp only [hb, Bool.not_false, if_true, List.eraseIdx_cons_succ]
    rw [filter_born L j e hn'.2 (by simpa using h)]
theorem left_push (es : Array MapEntry) (seen : Array Nat) (j : Nat) (e : MapEntry) (hn : (es.toList.map (·.born)).Nodup) (hj : (leftOf es seen).toList[j]? = some e) : (leftOf es (seen.push e.born)).toList = (leftOf es seen).toList.eraseIdx j := by
  have hl : ∀ s, (leftOf es s).toList = es.toList.filter fun x => !s.contains x.born := fun s => by simp [leftOf]
  rw [← filter_born _ j e ?_ hj]
  · rw [hl, hl, List.filter_filter]
    refine List.filter_congr fun x _ => ?_
    rw [contains_push]
    cases seen.contains x.born <;> cases x.born == e.born <;> rfl
  · rw [hl]
    exact hn.sublist (List.filter_sublist.map _)
theorem Bears.get {es : List MapEntry} {m : List (κ × Value)} (h : Bears enc es m) {j : Nat} {e : MapEntry} (hj : es[j]? = some e) : ∃ x, m[j]? = some x ∧ e.key = enc x.1 ∧ e.val = x.2 := by
  have h1 := congrArg (fun l => l[j]?) h
  simp only [List.getElem?_map, hj, Option.map_some] at h1
  cases hx : m[j]? with
  | none => rw [hx] at h1; cases h1
  | some x =>
    rw [hx] at h1
    simp only [Option.map_some, Option.some.injEq, Prod.mk.injEq] at h1
    exact ⟨x, rfl, h1.1, h1.2⟩

section
variable {H0 H : Hs} {w0 w : World} {X : Nat → Prop} {ps : List Hp} {ops : Array Oper} {rest : List Oper} {o : Oper} {a : Act} {Q : Exit → Act → World → Prop} {r c : Nat} {m left : List (κ × Value)}
/-- How many are still to come, read off the world. -/
def iterLeft (w : World) (r c : Nat) : Nat :=
  match w.heap[c]?, w.heap[r]? with
  | some (.map es _), some (.mapIter _ _ seen _) => (leftOf es seen).size
  | _, _ => 0
theorem St.iterLeft_eq (h : St H0 w0 X H w ps) (i : Nat) (hi : ps[i]? = some (iterP enc r c m left)) : iterLeft w r c = left.length := by
  obtain ⟨F, ⟨_, _, _, es, clock, _, seen, _, h1, _, h3, _, _, _, hb⟩, _, _⟩ := h.step hi
  simp only [iterLeft, h1, h3]
  rw [← hb.len]
  simp
theorem St.endRange (h : St H0 w0 X H w ps) (i : Nat) (hi : ps[i]? = some (iterP enc r c m left)) : St H0 w0 X H w (mapP enc c m :: ps.eraseIdx i) :=
  h.see i hi fun F ⟨_, hc, _, es, clock, _, _, _, h1, h2, _⟩ => ⟨hc, _, h1, h2⟩
theorem wpList_range_st (i : Nat) (S : St H0 w0 X H w ps) (hi : ps[i]? = some (mapP enc c m)) {t e : TypeId} (ht : P.underlying t = some (.map K e))
    (hgd : o.guard = none) (x : Operand) (ho : o.op = .range t x) (hx : a.eval x = .map (some c))
    (h : ∀ w', St H0 w0 X H w' (iterP enc w.heap.size c m m :: ps.eraseIdx i) → wpList P ops Q rest (a.put o.dst (.pointer (some ⟨w.heap.size, 0, none⟩))) w') : wpList P ops Q (o :: rest) a w := by
  obtain ⟨F, ⟨hc, ob, hob, hm⟩, hF, k⟩ := S.step hi
  obtain ⟨es, clock, rfl, hb, hborn, hnd⟩ := hm.ex
  refine wpList_plain hgd fun K' hK => ?_
  unfold Oper.wp execOp
  simp only [ho, hx, Sem.run_bind, Sem.run_pure, Result.andThen_ok, run_range_map w t K e c es clock ht hob]
  refine hK _ _ (h _ ?_)
  have hlt : c < w.heap.size := (hF c hc).1
  have hold : (w.alloc (.mapIter (some c) clock #[] clock)).heap[c]? = some (.map es clock) := by rw [heap_alloc_old w _ hlt]; exact hob
  refine k H (w.alloc (.mapIter (some c) clock #[] clock)) [iterP enc w.heap.size c m m] ⟨rfl, rfl, rfl, by simp, fun k hk _ => Below.heap_alloc _ _ _ hk, Le.refl _, fun _ _ h => .inl h, ag_below S.ag ((Below.refl _ _).alloc (Nat.le_refl _) _), fun b => b = w.heap.size ∨ b = c, none_,
    ⟨.inl rfl, .inr rfl, by omega, es, clock, clock, #[], clock, hold, hm, heap_alloc_new w _, hborn, Nat.le_refl _, Nat.le_refl _, ?_⟩, ?_, fun _ h => h.elim, fun _ _ h => h, trivial⟩
  · have : leftOf es #[] = es := by
      unfold leftOf
      exact Array.filter_eq_self.2 fun x _ => by simp
    rw [this]
    exact hb
  · rintro b (rfl | rfl)
    · exact ⟨by simp, .inl (Nat.le_refl _), ag_none S.ag (Nat.le_refl _)⟩
    · exact ⟨by simp; omega, .inr hc, (hF b hc).2⟩
theorem wpList_next_st (i : Nat) (S : St H0 w0 X H w ps) (hi : ps[i]? = some (iterP enc r c m left))
    (hgd : o.guard = none) (x : Operand) (ho : o.op = .next x false) (hx : a.eval x = .pointer (some ⟨r, 0, none⟩))
    (hDone : left = [] → wpList P ops Q rest (a.put o.dst (.tuple #[.bool false])) w)
    (hMore : ∀ (y : κ × Value) (j : Nat) (w' : World), left[j]? = some y → St H0 w0 X H w' (iterP enc r c m (left.eraseIdx j) :: ps.eraseIdx i) → (Instr.entry (.pointer (some ⟨r, 0, none⟩))).run P w' = .ok (.tuple #[enc y.1, y.2]) w' →
      wpList P ops Q rest (a.put o.dst (.tuple #[.bool true, enc y.1, y.2])) w') : wpList P ops Q (o :: rest) a w := by
  obtain ⟨F, ⟨hr, hc, hne, es, clock, since, seen, c0, h1, hm, h3, hold, hsc, hsc', hb⟩, hF, k⟩ := S.step hi
  obtain ⟨es', clock', e1, _, _, hnd⟩ := hm.ex
  cases e1
  refine wpList_plain hgd fun K' hK => ?_
  unfold Oper.wp
  rcases run_next_at (P := P) w o.type r c since c0 seen es clock h3 h1 hold hsc with ⟨h0, hrun⟩ | ⟨e, he, w1, hal, hrun⟩
  · simp [execOp, ho, hx, hrun, Result.andThen]
    refine hK _ _ (hDone ?_)
    have : (leftOf es seen).toList = [] := List.eq_nil_of_length_eq_zero (by simpa using h0)
    rw [this] at hb
    exact hb.nil_inv
  · obtain ⟨j, hj⟩ := List.getElem?_of_mem he
    obtain ⟨y, hy, hk1, hk2⟩ := hb.get hj
    have hw1 : w1.heap = w.heap ∧ w1.os = w.os ∧ w1.tape = w.tape ∧ w1.output = w.output := by rcases hal with rfl | rfl <;> exact ⟨rfl, rfl, rfl, rfl⟩
    have hset := MapKept.heap_set (o' := .mapIter (some c) since (seen.push e.born) clock) (show w1.heap[r]? = some (.mapIter (some c) since seen c0) by rw [hw1.1]; exact h3)
    have hc' : (ChangeMaps.setBlock w1 r (.mapIter (some c) since (seen.push e.born) clock)).heap[c]? = some (.map es clock) := (hset.2 c (fun e1 => hne e1.symm)).trans (by rw [hw1.1]; exact h1)
    have hmem : e ∈ es.toList := (mem_left he).1
    have hen := run_entry_at (P := P) _ r c since seen es clock e hset.1 hc' hmem hnd
    rw [hk1, hk2] at hrun hen
    simp [execOp, ho, hx, hrun, Result.andThen]
    refine hK _ _ (hMore y j _ hy ?_ hen)
    refine k H _ [iterP enc r c m (left.eraseIdx j)] (St.wrote (w' := ChangeMaps.setBlock w1 r (.mapIter (some c) since (seen.push e.born) clock)) (q := iterP enc r c m (left.eraseIdx j)) S.ag hF hr hw1.2.1 hw1.2.2.1 hw1.2.2.2 ?_ (fun x hx => (hset.2 x hx).trans (by rw [hw1.1])) ?_)
    · show (w1.heap.setIfInBounds r _).size = _
      rw [Array.size_setIfInBounds, hw1.1]
    · refine ⟨hr, hc, hne, es, clock, since, _, clock, hc', hm, hset.1, hold, hsc', hsc', ?_⟩
      rw [left_push es seen j e hnd hj]
      exact hb.erase j
end
end
end Go.Proofs.YtdnpobjokajigaaGreatDoor.K

namespace Go.Proofs.YtdnpobjokajigaaGreatDoor.K
open Go.RowKit
section
set_option linter.unusedSectionVars false
set_option linter.unusedVariables false
variable {κ : Type} [DecidableEq κ]
variable {P : Program} {K : TypeId} {enc : κ → Value}
/-- From W on, a loop over the map at c, to which 'left' are still to come. -/
def IterB (W w : World) (enc : κ → Value) (r c : Nat) (m left : List (κ × Value)) : Prop :=
  Below W.heap.size W w ∧ W.heap.size ≤ r ∧ ∃ es clock since seen c0, W.heap[c]? = some (.map es clock) ∧ IsMap enc (.map es clock) m ∧ w.heap[r]? = some (.mapIter (some c) since seen c0) ∧ (∀ x ∈ es.toList, x.born < since) ∧ since ≤ c0 ∧ since ≤ clock ∧ Bears enc (leftOf es seen).toList left
variable {ops : Array Oper} {rest : List Oper} {o : Oper} {a : Act} {Q : Exit → Act → World → Prop} {W w : World} {r c : Nat} {m left : List (κ × Value)}
theorem wpList_rangeB (hB : Below W.heap.size W w) {ob : Obj} (hob : W.heap[c]? = some ob) (hm : IsMap enc ob m) {t e : TypeId} (ht : P.underlying t = some (.map K e))
    (hgd : o.guard = none) (x : Operand) (ho : o.op = .range t x) (hx : a.eval x = .map (some c))
    (h : ∀ w', IterB W w' enc w.heap.size c m m → wpList P ops Q rest (a.put o.dst (.pointer (some ⟨w.heap.size, 0, none⟩))) w') : wpList P ops Q (o :: rest) a w := by
  obtain ⟨es, clock, rfl, hb, hborn, hnd⟩ := hm.ex
  have hlt := (Array.getElem?_eq_some_iff.1 hob).1
  have hob' : w.heap[c]? = some (.map es clock) := (hB.block c hlt).trans hob
  refine wpList_plain hgd fun K' hK => ?_
  unfold Oper.wp execOp
  simp only [ho, hx, Sem.run_bind, Sem.run_pure, Result.andThen_ok, run_range_map w t K e c es clock ht hob']
  refine hK _ _ (h _ ⟨hB.alloc hB.size _, hB.size, es, clock, clock, #[], clock, hob, hm, heap_alloc_new w _, hborn, Nat.le_refl _, Nat.le_refl _, ?_⟩)
  have : leftOf es #[] = es := by
    unfold leftOf
    exact Array.filter_eq_self.2 fun x _ => by simp
  rw [this]
  exact hb
theorem wpList_nextB (hI : IterB W w enc r c m left)
    (hgd : o.guard = none) (x : Operand) (ho : o.op = .next x false) (hx : a.eval x = .pointer (some ⟨r, 0, none⟩))
    (hDone : left = [] → wpList P ops Q rest (a.put o.dst (.tuple #[.bool false])) w)
    (hMore : ∀ (y : κ × Value) (j : Nat) (w' : World), left[j]? = some y → IterB W w' enc r c m (left.eraseIdx j) → (Instr.entry (.pointer (some ⟨r, 0, none⟩))).run P w' = .ok (.tuple #[enc y.1, y.2]) w' →
      wpList P ops Q rest (a.put o.dst (.tuple #[.bool true, enc y.1, y.2])) w') : wpList P ops Q (o :: rest) a w := by
  obtain ⟨hB, hr, es, clock, since, seen, c0, h1, hm, h3, hold, hsc, hsc', hb⟩ := hI
  obtain ⟨es', clock', e1, _, _, hnd⟩ := hm.ex
  cases e1
  have hlt := (Array.getElem?_eq_some_iff.1 h1).1
  have h1' : w.heap[c]? = some (.map es clock) := (hB.block c hlt).trans h1
  have hne : r ≠ c := by omega
  refine wpList_plain hgd fun K' hK => ?_
  unfold Oper.wp
  rcases run_next_at (P := P) w o.type r c since c0 seen es clock h3 h1' hold hsc with ⟨h0, hrun⟩ | ⟨e, he, w1, hal, hrun⟩
  · simp [execOp, ho, hx, hrun, Result.andThen]
    refine hK _ _ (hDone ?_)
    have : (leftOf es seen).toList = [] := List.eq_nil_of_length_eq_zero (by simpa using h0)
    rw [this] at hb
    exact hb.nil_inv
  · obtain ⟨j, hj⟩ := List.getElem?_of_mem he
    obtain ⟨y, hy, hk1, hk2⟩ := hb.get hj
    have hw1 : w1.heap = w.heap ∧ w1.os = w.os ∧ w1.tape = w.tape ∧ w1.output = w.output := by rcases hal with rfl | rfl <;> exact ⟨rfl, rfl, rfl, rfl⟩
    have hset := MapKept.heap_set (o' := .mapIter (some c) since (seen.push e.born) clock) (show w1.heap[r]? = some (.mapIter (some c) since seen c0) by rw [hw1.1]; exact h3)
    have hc' : (ChangeMaps.setBlock w1 r (.mapIter (some c) since (seen.push e.born) clock)).heap[c]? = some (.map es clock) := (hset.2 c (fun e1 => hne e1.symm)).trans (by rw [hw1.1]; exact h1')
    have hmem : e ∈ es.toList := (mem_left he).1
    have hen := run_entry_at (P := P) _ r c since seen es clock e hset.1 hc' hmem hnd
    rw [hk1, hk2] at hrun hen
    simp [execOp, ho, hx, hrun, Result.andThen]
    refine hK _ _ (hMore y j _ hy ⟨⟨?_, ?_, ?_, ?_, fun k hk => ?_⟩, hr, es, clock, since, _, clock, h1, hm, hset.1, hold, hsc', hsc', ?_⟩ hen)
    · exact hw1.2.1.trans hB.os
    · exact hw1.2.2.1.trans hB.tape
    · exact hw1.2.2.2.trans hB.output
    · show _ ≤ (w1.heap.setIfInBounds r _).size
      rw [Array.size_setIfInBounds, hw1.1]
      exact hB.size
    · exact (hset.2 k (by omega)).trans ((by rw [hw1.1] : w1.heap[k]? = w.heap[k]?).trans (hB.block k hk))
    · rw [left_push es seen j e hnd hj]
      exact hb.erase j
def iterLeftB (W w : World) (r c : Nat) : Nat := iterLeft w r c
theorem IterB.left_eq (h : IterB W w enc r c m left) : iterLeft w r c = left.length := by
  obtain ⟨hB, _, es, clock, _, seen, _, h1, _, h3, _, _, _, hb⟩ := h
  have h1' : w.heap[c]? = some (.map es clock) := (hB.block c (Array.getElem?_eq_some_iff.1 h1).1).trans h1
  simp only [iterLeft, h1', h3]
  rw [← hb.len]
  simp
end
end Go.Proofs.YtdnpobjokajigaaGreatDoor.K

namespace Go.Proofs.YtdnpobjokajigaaGreatDoor
open Go.RowKit Go.Proofs K
set_option linter.unusedVariables false

/-- What a disk in memory looks like. -/
def DiskAt (w : World) (d : Nat) (D : Dk) : Prop := ∃ c fs o, fs.map (·.2) = D.files ∧ (∃ cs t fr, w.heap[d]? = some (.cells cs t fr) ∧ cs = #[.map (some c), .int .i64 D.room, .int .i64 D.after, .int .i64 D.torn, .bool D.dead]) ∧ w.heap[c]? = some o ∧ IsMap Value.string o (filesM fs) ∧
  ∀ x ∈ fs, ∃ A k cs t fr, w.heap[x.1]? = some (.cells cs t fr) ∧ cs[0]? = some (.slice A x.2.s.length k) ∧ w.ownsRow 0 5 1 (.slice A x.2.s.length k) x.2.s.length (bytesL x.2.s)
section
variable {H0 H : Hs} {w0 w : World} {X : Nat → Prop} {ps : List Hp}
theorem diskAt_of {d : Nat} {D : Dk} (S : St H0 w0 X H w ps) (i : Nat) (hi : ps[i]? = some (diskP d D)) : DiskAt w d D := by
  obtain ⟨c, fs, hf, S1⟩ := openDisk S i hi
  obtain ⟨F, ⟨_, o, ho, hm⟩, _⟩ := S1.step (i := 0) rfl
  refine ⟨c, fs, o, hf, ⟨_, _, _, S1.blk_at 2 rfl, rfl⟩, ho, hm, fun x hx => ?_⟩
  obtain ⟨j, hj⟩ := List.getElem?_of_mem hx
  obtain ⟨A, k, S2⟩ := openFile (b := x.1) (f := x.2) S1 1 rfl hj
  exact ⟨A, k, _, _, _, S2.blk_at 0 rfl, rfl, S2.own_at 1 rfl⟩
theorem filesM_erase (fs : List (Nat × FileS)) (j : Nat) : (filesM fs).eraseIdx j = filesM (fs.eraseIdx j) := by unfold filesM; rw [map_erase]
theorem used_erase : ∀ {fs : List (Nat × FileS)} {j : Nat} {x : Nat × FileS}, fs[j]? = some x → used (fs.map (·.2)) = x.2.s.length + used ((fs.eraseIdx j).map (·.2))
  | [], j, x, h => by simp at h
  | y :: fs, 0, x, h => by
    cases h
    simp [used]
  | y :: fs, j + 1, x, h => by
    have := used_erase (fs := fs) (j := j) (x := x) (by simpa using h)
    simp only [used, List.eraseIdx_cons_succ, List.map_cons, List.sum_cons] at this ⊢
    omega
set_option maxRecDepth 100000 in
set_option maxHeartbeats 1000000 in
theorem used_any {d : Nat} {D : Dk} {W : World} (hD : DiskAt W d D) (hn : used D.files ≤ 140737488355328) : Calls Tryz.prog 24 #[.pointer (some ⟨d, 0, none⟩)] W (RetV (.int .i64 (used D.files)) W) := by
  obtain ⟨c, fs, ob, hf, ⟨cs, t, fr, hd, rfl⟩, ho, hm, hfs⟩ := hD
  have c0 : W.cell? ⟨d, 0, none⟩ = some (.map (some c)) := by rw [cell_of_row _ _ _ _ _ _ hd]; rfl
  have HO := Lib.hid ho
  have HM := Lib.hid hm
  have HFS := Lib.hid hfs
  have HU : Hid (used (fs.map (·.2)) = used D.files) := Lib.hid (by rw [hf])
  clear hd ho hm hfs hf
  go_enter Tryz.func24, Tryz.ntmps24
  go_wp2_with (first
    | (refine wpList_rangeB (Below.refl _ W) HO.out HM.out Tryz.underlying140 rfl _ rfl rfl ?_)
    | fail)
  intro w1 hI1
  have HI1 := Lib.hid hI1
  clear hI1 c0
  go_wp2_with fail
  go_loopw [3] (fun v wr => ∃ (n : Nat) (ls : List (Nat × FileS)), v = .int .i64 n ∧ n + used (ls.map (·.2)) = used D.files ∧ Hid ((∀ x ∈ ls, x ∈ fs) ∧ IterB W wr Value.string W.heap.size c (filesM fs) (filesM ls))) (fun _ wr => iterLeft wr W.heap.size c)
  case atStart => exact ⟨0, fs, rfl, by rw [HU.out]; omega, Lib.hid ⟨fun _ h => h, HI1.out⟩⟩
  case round =>
    clear HI1
    obtain ⟨n, ls, rfl, hsum, HI⟩ := hrel
    go_wp2_with (first
      | (refine wpList_nextB HI.out.2 rfl _ rfl rfl ?_ ?_)
      | fail)
    · intro hd
      have h0 : ls = [] := by simpa [filesM] using hd
      subst h0
      have hn2 : n = used D.files := by simpa [used] using hsum
      subst hn2
      go_wp2_with fail
      go_ret
      exact ⟨rfl, HI.out.2.1⟩
    · intro yn yv j w3 hj hI3 hen
      obtain ⟨x, hx, hy1, hy2⟩ : ∃ x : Nat × FileS, ls[j]? = some x ∧ yn = x.2.name ∧ yv = ptr x.1 := by
        simp only [filesM, List.getElem?_map, Option.map_eq_some_iff] at hj
        obtain ⟨x, h1, h2⟩ := hj
        simp only [Prod.mk.injEq] at h2
        exact ⟨x, h1, h2.1.symm, h2.2.symm⟩
      subst hy1 hy2
      have HJ := Lib.hid hj
      have hmem := HI.out.1 x (List.mem_of_getElem? hx)
      obtain ⟨A, k, cs, t, fr, h1, h2, _⟩ := HFS.out x hmem
      have d0 : w3.cell? ⟨x.1, 0, none⟩ = some (.slice A x.2.s.length k) := by
        rw [hI3.1.cell (Array.getElem?_eq_some_iff.1 h1).1, cell_of_row _ _ _ _ _ _ h1]
        exact h2
      have hs2 := used_erase hx
      have HI3 := Lib.hid hI3
      have HX := Lib.hid hx
      have hb : n + x.2.s.length ≤ 140737488355328 := by omega
      simp only [ptr] at hen ⊢
      clear hI3 h1 h2 hj hx hmem
      go_wp2_with fail
      go_roundw
      case rel => exact ⟨n + x.2.s.length, ls.eraseIdx j, by go_num, by omega, Lib.hid ⟨fun z hz => HI.out.1 z (List.mem_of_mem_eraseIdx hz), by rw [← filesM_erase]; exact HI3.out⟩⟩
      case measure =>
        rw [HI3.out.left_eq, HI.out.2.left_eq]
        have := (List.getElem?_eq_some_iff.1 HJ.out).1
        rw [List.length_eraseIdx_of_lt this]
        omega
end
end Go.Proofs.YtdnpobjokajigaaGreatDoor

namespace Go.Proofs.YtdnpobjokajigaaGreatDoor
open Go.RowKit Go.Proofs K
set_option linter.unusedVariables false

theorem strOfBytesL (l : List UInt8) : strOfNums (l.map fun b => (b.toNat : Int)) = bs l := by
  unfold strOfNums bs
  rw [List.map_map]
  congr 2
  conv => rhs; rw [← List.map_id l]
  apply List.map_congr_left
  intro b _
  simp
/-- An own row of bytes as a text. -/
theorem own_conv {w : World} {v : Value} {l : List UInt8} (h : w.ownsRow 0 5 1 v l.length (bytesL l)) : (convert 144 9 v).run Tryz.prog w = .ok (.string (bs l)) w := by
  rcases h.2 with ⟨rfl, h0⟩ | ⟨g, cap, cur, rfl, _, hg, _, _, _, htake⟩
  · have : l = [] := List.eq_nil_of_length_eq_zero h0
    subst this
    exact run_convert_bytes_nil (P := Tryz.prog) (w := w) 144 5 Tryz.underlying144 Tryz.underlying5 0 0 9 Tryz.underlying9
  · rw [← strOfBytesL]
    refine run_convert_bytes_arg w 144 5 Tryz.underlying144 Tryz.underlying5 g 0 l.length cap (l.map fun b => (b.toNat : Int)) (by simp) (fun i hi => ?_) 9 Tryz.underlying9
    rw [Nat.zero_add, cell_of_row _ _ _ _ _ _ hg]
    have h1 : (bytesL l)[i]? = some (.int .u8 (l[i].toNat : Int)) := by simp [Lib.byteCells, hi]
    rw [← htake, List.getElem?_take] at h1
    split at h1
    · rw [show ((l.map fun b => (b.toNat : Int)).getD i 0) = (l[i].toNat : Int) by simp [hi]]
      simpa using h1
    · cases h1
section
variable {H0 H : Hs} {w0 w : World} {X : Nat → Prop} {ps : List Hp}
set_option maxRecDepth 100000 in
set_option maxHeartbeats 1000000 in
theorem read6_any {d : Nat} {D : Dk} {W : World} (hD : DiskAt W d D) (n : ByteArray) : Calls Tryz.prog 119 #[.pointer (some ⟨d, 0, none⟩), .string n] W (RetV (.tuple #[.string (bs ((readF D.files n).getD [])), .bool (readF D.files n).isSome]) W) := by
  obtain ⟨c, fs, ob, hf, ⟨cs, t, fr, hd, rfl⟩, ho, hm, hfs⟩ := hD
  have c0 : W.cell? ⟨d, 0, none⟩ = some (.map (some c)) := by rw [cell_of_row _ _ _ _ _ _ hd]; rfl
  have hl := lookup_run keyS Tryz.underlying140 ho hm (zeroFile W) n true
  rcases find_file n fs with ⟨j, b, f, h1, h2, h3, h4, h5, h6⟩ | ⟨h1, h2, h3, h4⟩
  · rw [h2] at hl
    simp only [if_true, Option.getD_some, Option.isSome_some, ptr] at hl
    obtain ⟨A, k, cs, t, fr, g1, g2, g3⟩ := hfs _ (List.mem_of_getElem? h1)
    have c1 : W.cell? ⟨b, 0, none⟩ = some (.slice A f.s.length k) := by rw [cell_of_row _ _ _ _ _ _ g1]; exact g2
    have hcv := own_conv g3
    rw [← hf, h5]
    clear hd ho hm hfs hf h1 h2 h3 h4 h5 h6 g1 g2 g3
    go_enter Tryz.func119, Tryz.ntmps119
    go_wp2_with fail
    go_ret2
    exact ⟨rfl, Below.refl _ _⟩
  · rw [h1] at hl
    simp only [if_true, Option.getD_none, Option.isSome_none] at hl
    rw [← hf, h2]
    clear hd ho hm hfs hf h1 h2 h3 h4
    go_enter Tryz.func119, Tryz.ntmps119
    go_wp2_with fail
    go_ret2
    exact ⟨rfl, Below.refl _ _⟩
def New6S (H0 H : Hs) (w0 : World) (X : Nat → Prop) (ps : List Hp) (room : Int) (e : Ending) (w' : World) : Prop :=
  (0 ≤ room ∧ room ≤ 1048576 ∧ ∃ d, e = .returned (.tuple #[ptr d, .int .i64 0]) ∧ St H0 w0 X H w' (diskP d (freshD room) :: ps)) ∨ (¬ (0 ≤ room ∧ room ≤ 1048576) ∧ e = .returned (.tuple #[.pointer none, .int .i64 1]) ∧ St H0 w0 X H w' ps)
set_option maxRecDepth 100000 in
theorem new6_any (S : St H0 w0 X H w ps) (room : Int) : Calls Tryz.prog 15 #[.int .i64 room] w (New6S H0 H w0 X ps room) := by
  have HS := Lib.hid S
  clear S
  by_cases h0 : room < 0
  · have HB := Lib.hid h0
    go_enter Tryz.func15, Tryz.ntmps15
    go_wp2_with fail
    go_ret2
    exact .inr ⟨fun h => by have := HB.out; omega, rfl, HS.out⟩
  · by_cases h1 : 1048576 < room
    · have HB := Lib.hid h1
      go_enter Tryz.func15, Tryz.ntmps15
      go_wp2_with fail
      go_ret2
      exact .inr ⟨fun h => by have := HB.out; omega, rfl, HS.out⟩
    · have HB := Lib.hid (And.intro h0 h1)
      go_enter Tryz.func15, Tryz.ntmps15
      go_wp2_with fail
      refine (fresh_any HS.out room).mono ?_
      rintro e w2 ⟨d, rfl, S2⟩
      have HS2 := Lib.hid S2
      simp only [ptr]
      clear S2 HS
      go_wp2_with fail
      go_ret2
      exact .inl ⟨by have := HB.out; omega, by have := HB.out; omega, d, rfl, HS2.out⟩
end
end Go.Proofs.YtdnpobjokajigaaGreatDoor

namespace Go.Proofs.YtdnpobjokajigaaGreatDoor
open Go.RowKit Go.Proofs K
set_option linter.unusedVariables false
attribute [local go_sem ↓] Go.wp_at_zero Go.wp_at_succ

def fourS (n : Int) : ByteArray := strOfNums (sumL n)
set_option maxRecDepth 100000 in
theorem four_any (n : Int) (h0 : 0 ≤ n) (h1 : n < 4294967296) (w : World) : Calls Tryz.prog 243 #[.int .u32 n] w (RetV (.string (fourS n)) w) := by
  have hconv := run_convert_bytes_arg (P := Tryz.prog) (w.alloc (.cells #[.int .u8 (n / 16777216), .int .u8 (n / 65536 % 256), .int .u8 (n / 256 % 256), .int .u8 (n % 256)] 5)) 144 5 Tryz.underlying144 Tryz.underlying5 w.heap.size 0 4 4 (sumL n) rfl (fun i hi => by
    rw [cell_of_row _ _ _ _ _ _ (heap_alloc_new w _)]
    rcases (by omega : i = 0 ∨ i = 1 ∨ i = 2 ∨ i = 3) with e | e | e | e <;> rw [e] <;> rfl) 9 Tryz.underlying9
  go_enter Tryz.func243, Tryz.ntmps243
  go_wp2_with fail
  go_ret
  exact ⟨rfl, (Below.refl _ _).alloc (Nat.le_refl _) _⟩
theorem or32 (p q k : Nat) (hq : q < 2 ^ k) (hp : 2 ^ k * p + q < 4294967296) : bits .or .u32 ((2 ^ k * p : Nat) : Int) (q : Int) = ((2 ^ k * p + q : Nat) : Int) := by
  have h1 : (BitVec.ofInt 32 ((2 ^ k * p : Nat) : Int)).toNat = 2 ^ k * p := by
    rw [BitVec.ofInt_natCast, BitVec.toNat_ofNat]; exact Nat.mod_eq_of_lt (by omega)
  have h2 : (BitVec.ofInt 32 (q : Int)).toNat = q := by
    rw [BitVec.ofInt_natCast, BitVec.toNat_ofNat]; exact Nat.mod_eq_of_lt (by omega)
  show IntKind.u32.wrap ((BitVec.ofInt 32 ((2 ^ k * p : Nat) : Int) ||| BitVec.ofInt 32 (q : Int)).toNat : Int) = _
  rw [BitVec.toNat_or, h1, h2, ← Nat.two_pow_add_eq_or_of_lt hq]
  rw [IntKind.wrap_u32]
  omega
def numI (l : List UInt8) : Nat := (l.getD 0 0).toNat * 16777216 + (l.getD 1 0).toNat * 65536 + (l.getD 2 0).toNat * 256 + (l.getD 3 0).toNat
theorem bs_getD8 {l : List UInt8} {k : Nat} (h : k < (bs l).size) : (bs l)[k] = l.getD k 0 := by
  have h2 : k < l.length := by rwa [bs_size] at h
  rw [List.getD_eq_getElem?_getD, List.getElem?_eq_getElem h2, Option.getD_some]
  rfl
set_option maxRecDepth 100000 in
set_option maxHeartbeats 1000000 in
theorem number4_any (l : List UInt8) (h : 4 ≤ l.length) (w : World) : Calls Tryz.prog 211 #[.string (bs l)] w (RetV (.int .u32 (numI l)) w) := by
  have hs : 4 ≤ (bs l).size := by rw [bs_size]; exact h
  obtain ⟨a, ha⟩ : ∃ a, a = (bs l)[0] := ⟨_, rfl⟩
  obtain ⟨b, hb⟩ : ∃ b, b = (bs l)[1] := ⟨_, rfl⟩
  obtain ⟨c, hc⟩ : ∃ c, c = (bs l)[2] := ⟨_, rfl⟩
  obtain ⟨d, hd⟩ : ∃ d, d = (bs l)[3] := ⟨_, rfl⟩
  have e : numI l = a.toNat * 16777216 + b.toNat * 65536 + c.toNat * 256 + d.toNat := by
    rw [ha, hb, hc, hd, bs_getD8, bs_getD8, bs_getD8, bs_getD8]
    rfl
  rw [e]
  have HA := Lib.hid (And.intro ha (And.intro hb (And.intro hc hd)))
  have a8 := a.toNat_lt
  have b8 := b.toNat_lt
  have c8 := c.toNat_lt
  have d8 := d.toNat_lt
  have g0 : 0 < (bs l).size := by omega
  have g1 : 1 < (bs l).size := by omega
  have g2 : 2 < (bs l).size := by omega
  have g3 : 3 < (bs l).size := by omega
  have i1 : (1 : Int) < ((bs l).size : Int) := by omega
  have i2 : (2 : Int) < ((bs l).size : Int) := by omega
  have i3 : (3 : Int) < ((bs l).size : Int) := by omega
  go_enter Tryz.func211, Tryz.ntmps211
  go_wp2_with fail
  go_region
  rw [← ha, ← hb, ← hc, ← hd]
  clear ha hb hc hd
  go_wp2_with fail
  go_ret
  refine ⟨?_, (Below.refl _ _).drew⟩
  show Ending.returned (.int .u32 _) = _
  have e1 : (a.toNat : Int) % 4294967296 * 16777216 % 4294967296 = ((2 ^ 24 * a.toNat : Nat) : Int) := by omega
  have e2 : (b.toNat : Int) % 4294967296 * 65536 % 4294967296 = ((b.toNat * 65536 : Nat) : Int) := by omega
  have e3 : (c.toNat : Int) % 4294967296 * 256 % 4294967296 = ((c.toNat * 256 : Nat) : Int) := by omega
  have e4 : (d.toNat : Int) % 4294967296 = (d.toNat : Int) := by omega
  rw [e1, e2, or32 _ _ 24 (by omega) (by omega), e3, show 2 ^ 24 * a.toNat + b.toNat * 65536 = 2 ^ 16 * (a.toNat * 256 + b.toNat) by omega, or32 _ _ 16 (by omega) (by omega), e4,
    show 2 ^ 16 * (a.toNat * 256 + b.toNat) + c.toNat * 256 = 2 ^ 8 * (a.toNat * 65536 + b.toNat * 256 + c.toNat) by omega, or32 _ _ 8 (by omega) (by omega)]
  congr 3
  omega
/-- A text in a frame. -/
def frameB (s : ByteArray) : ByteArray := fourS (s.size : Int) ++ fourS (crcI (crcI 0 (fourS (s.size : Int))) s) ++ s
theorem fourS_size (n : Int) : (fourS n).size = 4 := by simp [fourS, strOfNums_size, sumL]
set_option maxRecDepth 100000 in
set_option maxHeartbeats 1000000 in
theorem frame_any (s : ByteArray) (hs : s.size ≤ 140737488355328) (w : World) : Calls Tryz.prog 219 #[.string s] w (RetV (.tuple #[.string (if s.size ≤ 65536 then frameB s else ⟨#[]⟩), .bool (decide (s.size ≤ 65536))]) w) := by
  by_cases h : s.size ≤ 65536
  · have h1 : ((s.size : Nat) : Int) ≤ 65536 := by omega
    rw [if_pos h, decide_eq_true h]
    have hb : frameB s = fourS (s.size : Int) ++ fourS (crcI (crcI 0 (fourS (s.size : Int))) s) ++ s := rfl
    obtain ⟨g, hg⟩ : ∃ g, g = frameB s := ⟨_, rfl⟩
    rw [← hg] at hb ⊢
    obtain ⟨n, hn⟩ : ∃ n : ByteArray, n = fourS (s.size : Int) := ⟨_, rfl⟩
    rw [← hn] at hb
    have HF := Lib.hid (four_any (s.size : Int) (by omega) (by omega))
    rw [← hn] at HF
    have h4 : n.size = 4 := by rw [hn, fourS_size]
    obtain ⟨c, hc⟩ : ∃ c, c = crcI 0 n := ⟨_, rfl⟩
    obtain ⟨x, hx⟩ : ∃ x, x = crcI c s := ⟨_, rfl⟩
    have HSum := Lib.hid (sum_any n (by omega))
    have HMore := Lib.hid (more_any c s hs)
    rw [← hc] at HSum hb
    rw [← hx] at HMore hb
    have hx0 : 0 ≤ x ∧ x < 4294967296 := by rw [hx]; exact cnot_bd _
    have HX := Lib.hid (four_any x hx0.1 hx0.2)
    have HB := Lib.hid hb
    have n1 : (n.size : Int) = 4 := by omega
    have n2 : ((fourS x).size : Int) = 4 := by rw [fourS_size]; rfl
    clear hb hx hc hn h4 hg
    go_enter Tryz.func219, Tryz.ntmps219
    go_wp2_with fail
    refine (HF.out _).mono ?_
    rintro e w1 ⟨rfl, hb1⟩
    go_wp2_with fail
    refine (HSum.out _).mono ?_
    rintro e w2 ⟨rfl, hb2⟩
    go_wp2_with fail
    refine (HMore.out _).mono ?_
    rintro e w3 ⟨rfl, hb3⟩
    go_wp2_with fail
    refine (HX.out _).mono ?_
    rintro e w4 ⟨rfl, hb4⟩
    go_wp2_with fail
    go_ret2
    have hb5 := (hb1.trans (hb2.mono hb1.size)).trans ((hb3.trans (hb4.mono hb3.size)).mono (Nat.le_trans hb1.size hb2.size))
    exact ⟨by rw [HB.out]; rfl, hb5⟩
  · rw [if_neg h, decide_eq_false h]
    have h1 : ¬ ((s.size : Nat) : Int) ≤ 65536 := by omega
    go_enter Tryz.func219, Tryz.ntmps219
    go_wp2_with fail
    go_ret2
    exact ⟨rfl, Below.refl _ _⟩
/-- The first frame's text, and whether it is whole, and right. -/
def oneB (l : List UInt8) : List UInt8 × Bool :=
  if l.length < 8 then ([], false)
  else if 65536 < numI l ∨ l.length < 8 + numI l then ([], false)
  else ((l.drop 8).take (numI l), decide (crcI (crcI 0 (bs (l.take 4))) (bs ((l.drop 8).take (numI l))) = (numI (l.drop 4) : Int)))
theorem bs_mid8 (l : List UInt8) (a n : Nat) : (bs l).extract a (a + n) = bs ((l.drop a).take n) := ByteArray.ext (Array.toList_inj.1 (by simp [bs, List.take_drop]))
theorem bs_take8 (l : List UInt8) (n : Nat) : (bs l).extract 0 n = bs (l.take n) := ByteArray.ext (Array.toList_inj.1 (by simp [bs]))
theorem bs_drop8 (l : List UInt8) (n : Nat) : (bs l).extract n (bs l).size = bs (l.drop n) := ByteArray.ext (Array.toList_inj.1 (by
  simp only [bs, ByteArray.data_extract, Array.toList_extract, ByteArray.size, List.size_toArray, List.extract_eq_take_drop]
  rw [List.take_of_length_le (by rw [List.length_drop]; exact Nat.le_refl _)]))
set_option maxRecDepth 100000 in
set_option maxHeartbeats 1000000 in
theorem one_any (l : List UInt8) (hl : l.length ≤ 140737488355328) (w : World) : Calls Tryz.prog 164 #[.string (bs l)] w (RetV (.tuple #[.string (bs (oneB l).1), .bool (oneB l).2]) w) := by
  have hsz : (bs l).size = l.length := bs_size l
  by_cases h8 : l.length < 8
  · have h8' : ((bs l).size : Int) < 8 := by omega
    have hp : oneB l = ([], false) := by unfold oneB; rw [if_pos h8]
    rw [hp]
    go_enter Tryz.func164, Tryz.ntmps164
    go_wp2_with fail
    go_ret2
    exact ⟨rfl, Below.refl _ _⟩
  · have h8' : ¬ ((bs l).size : Int) < 8 := by omega
    obtain ⟨n, hn⟩ : ∃ n, n = numI l := ⟨_, rfl⟩
    have hn32 : (n : Int) < 4294967296 := by
      rw [hn]
      unfold numI
      have h0 := (l.getD 0 0).toNat_lt
      have h1 := (l.getD 1 0).toNat_lt
      have h2 := (l.getD 2 0).toNat_lt
      have h3 := (l.getD 3 0).toNat_lt
      omega
    have HN := Lib.hid (number4_any l (by omega))
    rw [← hn] at HN
    obtain ⟨q, hq⟩ : ∃ q : Int, q = (n : Int) := ⟨_, rfl⟩
    rw [← hq] at HN hn32
    have hq0 : 0 ≤ q := by omega
    have HL := Lib.hid hl
    have HQ := Lib.hid hq
    have hi : ((bs l).size : Int) ≤ 140737488355328 := by omega
    clear hl
    by_cases hb : 65536 < n ∨ l.length < 8 + n
    · have hp : oneB l = ([], false) := by unfold oneB; rw [if_neg h8, ← hn, if_pos hb]
      rw [hp]
      have hb' : 65536 < q ∨ ((bs l).size : Int) - 8 < q := by omega
      clear hp hn hb hq hsz
      by_cases hb1 : 65536 < q
      · clear hb'
        go_enter Tryz.func164, Tryz.ntmps164
        go_wp2_with fail
        refine (HN.out _).mono ?_
        rintro e w1 ⟨rfl, hbw⟩
        go_wp2_with fail
        go_ret2
        exact ⟨rfl, hbw⟩
      · have hb2 : ((bs l).size : Int) - 8 < q := by omega
        clear hb'
        go_enter Tryz.func164, Tryz.ntmps164
        go_wp2_with fail
        refine (HN.out _).mono ?_
        rintro e w1 ⟨rfl, hbw⟩
        go_wp2_with fail
        go_ret2
        exact ⟨rfl, hbw⟩
    · obtain ⟨b, hbd⟩ : ∃ b, b = (l.drop 8).take n := ⟨_, rfl⟩
      obtain ⟨x, hx⟩ : ∃ x, x = crcI 0 (bs (l.take 4)) := ⟨_, rfl⟩
      obtain ⟨y, hy⟩ : ∃ y, y = crcI x (bs b) := ⟨_, rfl⟩
      obtain ⟨m, hm⟩ : ∃ m : Int, m = (numI (l.drop 4) : Int) := ⟨_, rfl⟩
      have hp : oneB l = (b, decide (y = m)) := by unfold oneB; rw [if_neg h8, ← hn, if_neg hb, ← hbd, ← hx, ← hy, ← hm]
      rw [hp]
      have hl := HL.out
      have HM := Lib.hid (number4_any (l.drop 4) (by rw [List.length_drop]; omega))
      have HX := Lib.hid (sum_any (bs (l.take 4)) (by rw [bs_size, List.length_take]; omega))
      have HY := Lib.hid (more_any x (bs b) (by rw [bs_size, hbd, List.length_take, List.length_drop]; omega))
      rw [← hm] at HM
      rw [← hx] at HX
      rw [← hy] at HY
      have e1 : (bs l).extract 8 (8 + q).toNat = bs b := by rw [hq, show (8 + (n : Int)).toNat = 8 + n by omega, bs_mid8, hbd]
      have e2 : (bs l).extract 0 4 = bs (l.take 4) := bs_take8 l 4
      have e3 : (bs l).extract 4 (bs l).size = bs (l.drop 4) := bs_drop8 l 4
      have hb1' : ¬ 65536 < q := by omega
      have hb2 : ¬ ((bs l).size : Int) - 8 < q := by omega
      have hb3 : (8 : Int) + q ≤ ((bs l).size : Int) := by omega
      have hb4 : (4 : Int) ≤ ((bs l).size : Int) := by omega
      clear hp hn hx hy hm hbd hb hq hl hsz
      go_enter Tryz.func164, Tryz.ntmps164
      go_wp2_with fail
      refine (HN.out _).mono ?_
      rintro e w1 ⟨rfl, hbw⟩
      go_wp2_with fail
      go_region_with (first
        | (go_at_call 133; refine (HX.out _).mono ?_; rintro e w2 ⟨rfl, hb5⟩)
        | (go_at_call 176; refine (HY.out _).mono ?_; rintro e w3 ⟨rfl, hb6⟩)
        | (go_at_call 211; refine (HM.out _).mono ?_; rintro e w4 ⟨rfl, hb7⟩))
      have g1 : Below w.heap.size w w2 := hbw.drew.trans (hb5.mono hbw.size)
      have g2 := g1.trans (hb6.mono g1.size)
      have HG := Lib.hid (g2.trans (hb7.mono g2.size))
      clear g1 g2 hb5 hb6 hb7 hbw
      go_wp2_with fail
      go_ret2
      exact ⟨rfl, HG.out⟩
end Go.Proofs.YtdnpobjokajigaaGreatDoor

namespace Go.Proofs.YtdnpobjokajigaaGreatDoor
open Go.RowKit Go.Proofs K
set_option linter.unusedVariables false

theorem oneB_ok {l : List UInt8} (h : (oneB l).2 = true) : 8 + (oneB l).1.length ≤ l.length := by
  unfold oneB at h ⊢
  split
  · rename_i h1; rw [if_pos h1] at h; cases h
  · rename_i h1
    rw [if_neg h1] at h
    split
    · rename_i h2; rw [if_pos h2] at h; cases h
    · rename_i h2
      simp only [List.length_take, List.length_drop]
      omega
/-- The texts in frames. -/
def framesG : Nat → List UInt8 → List (List UInt8)
  | 0, _ => []
  | f + 1, l => if (oneB l).2 then (oneB l).1 :: framesG f (l.drop (8 + (oneB l).1.length)) else []
def framesL (l : List UInt8) : List (List UInt8) := framesG (l.length + 1) l
def restL (fl : List (List UInt8)) : Nat := (fl.map fun b => 8 + b.length).sum
theorem framesG_more : ∀ (f g : Nat) (l : List UInt8), l.length < f → l.length < g → framesG f l = framesG g l
  | 0, _, _, h, _ => by omega
  | _, 0, _, _, h => by omega
  | f + 1, g + 1, l, h1, h2 => by
    unfold framesG
    split
    · rename_i h
      have := oneB_ok h
      rw [framesG_more f g (l.drop (8 + (oneB l).1.length)) (by rw [List.length_drop]; omega) (by rw [List.length_drop]; omega)]
    · rfl
theorem framesL_step {l : List UInt8} (h : (oneB l).2 = true) : framesL l = (oneB l).1 :: framesL (l.drop (8 + (oneB l).1.length)) := by
  have := oneB_ok h
  unfold framesL
  rw [framesG, if_pos h, framesG_more l.length ((l.drop (8 + (oneB l).1.length)).length + 1) _ (by rw [List.length_drop]; omega) (by omega)]
theorem framesL_end {l : List UInt8} (h : (oneB l).2 = false) : framesL l = [] := by
  unfold framesL
  rw [framesG, if_neg (by rw [h]; decide)]
theorem restL_snoc (fl : List (List UInt8)) (b : List UInt8) : restL (fl ++ [b]) = restL fl + (8 + b.length) := by simp [restL]
theorem restL_ge : ∀ fl : List (List UInt8), 8 * fl.length ≤ restL fl
  | [] => by simp [restL]
  | b :: fl => by
    have := restL_ge fl
    simp only [restL, List.map_cons, List.sum_cons, List.length_cons] at this ⊢
    omega
def strL (fl : List (List UInt8)) : List Value := fl.map fun b => .string (bs b)
theorem infoStr : (Tryz.prog.info? 9).map (fun i => (i.zero, i.size, i.bytes)) = some (some (.string ⟨#[]⟩), 1, 16) := by kernel_rfl
section
variable {H0 H : Hs} {w0 w : World} {X : Nat → Prop} {ps : List Hp}
def FramesS (H0 H : Hs) (w0 : World) (X : Nat → Prop) (ps : List Hp) (l : List UInt8) (e : Ending) (w' : World) : Prop :=
  ∃ A c, e = .returned (.tuple #[.slice A (framesL l).length c, .int .i64 (restL (framesL l))]) ∧ St H0 w0 X H w' (own 9 1 (.slice A (framesL l).length c) (framesL l).length (strL (framesL l)) :: ps)
set_option maxRecDepth 100000 in
set_option maxHeartbeats 2000000 in
theorem frames_any (S : St H0 w0 X H w ps) (l : List UInt8) (hl : l.length ≤ 1099511627776) : Calls Tryz.prog 120 #[.string (bs l)] w (FramesS H0 H w0 X ps l) := by
  have HS := Lib.hid (S.own_nil (e := 9) (size := 1))
  have HL := Lib.hid hl
  obtain ⟨i0, hi0, hz0, hz1, hz2⟩ := info_parts infoStr
  clear S hl
  go_enter Tryz.func120, Tryz.ntmps120
  go_wp2_with fail
  go_loopw [2, 3] (fun v r wr => ∃ (fl : List (List UInt8)) (k : Nat) (A : Option Addr) (c : Nat), v = .slice A fl.length c ∧ r = .int .i64 k ∧ k ≤ l.length ∧ Hid (fl ++ framesL (l.drop k) = framesL l ∧ restL fl = k ∧ St H0 w0 X H wr (own 9 1 (.slice A fl.length c) fl.length (strL fl) :: ps))) (fun _ r _ => l.length - (intOf r).toNat)
  case atStart => exact ⟨[], 0, none, 0, rfl, rfl, Nat.zero_le _, Lib.hid ⟨rfl, rfl, HS.out⟩⟩
  case round =>
    clear HS
    obtain ⟨fl, k, A, c, rfl, rfl, hk, HI⟩ := hrel
    have hsz := bs_size l
    have e3 : (bs l).extract k (bs l).size = bs (l.drop k) := bs_drop8 l k
    have hk2 : (k : Int) ≤ ((bs l).size : Int) := by omega
    obtain ⟨b, hb⟩ : ∃ b, b = (oneB (l.drop k)).1 := ⟨_, rfl⟩
    obtain ⟨ok, hok⟩ : ∃ ok, ok = (oneB (l.drop k)).2 := ⟨_, rfl⟩
    have HONE := Lib.hid (one_any (l.drop k) (by have := HL.out; rw [List.length_drop]; omega))
    rw [← hb, ← hok] at HONE
    have HB := Lib.hid hb
    have HOK := Lib.hid hok
    have hi : ((bs l).size : Int) ≤ 1099511627776 := by have := HL.out; omega
    clear hb hok
    have HSZ := Lib.hid hsz
    clear hsz
    cases ok with
    | false =>
      go_wp2_with fail
      refine (HONE.out _).mono ?_
      rintro e w1 ⟨rfl, hb1⟩
      go_wp2_with fail
      go_ret2
      have h1 := framesL_end HOK.out.symm
      obtain ⟨h2, h3, h4⟩ := HI.out
      rw [h1, List.append_nil] at h2
      unfold FramesS
      rw [← h2, h3]
      exact ⟨A, c, rfl, h4.grow hb1⟩
    | true =>
      have h8 := oneB_ok HOK.out.symm
      rw [← HB.out, List.length_drop] at h8
      have hbl : ((bs b).size : Int) ≤ ((bs l).size : Int) - 8 - (k : Int) := by rw [bs_size, HSZ.out]; omega
      have hfl : 8 * fl.length ≤ k := by have := restL_ge fl; rw [HI.out.2.1] at this; exact this
      have H8 := Lib.hid h8
      clear h8
      go_wp2_with fail
      refine (HONE.out _).mono ?_
      rintro e w1 ⟨rfl, hb1⟩
      have HS1 := Lib.hid ((HI.out.2.2.grow hb1).alloc (.cells #[.string (bs b)] 9))
      go_wp2_with (first
        | (at_builtin; refine wpList_append_st 1 9 HS1.out rfl rfl _ _ 39 rfl i0 _ 16 Tryz.underlying39 hi0 hz0 hz1 hz2 rfl (by decide) rfl ⟨w1.heap.size, 0, none⟩ 1 1 [.string (bs b)] rfl rfl (fun j u hj => by
            rcases j with _ | j
            · cases hj; exact HS1.out.cell 0 rfl rfl
            · simp at hj) (by simp [Value.oneCell']) (by unfold maxLen; have := HL.out; omega) (by have := HL.out; omega) ?_)
        | fail)
      intro A' c' w2 S2
      have HS2 := Lib.hid S2
      clear S2
      go_wp2_with fail
      refine ⟨⟨fl ++ [b], k + (8 + b.length), A', c', ?_, ?_, ?_, ?_⟩, ?_⟩
      · rw [List.length_append]; rfl
      · rw [bs_size]; rfl
      · have := H8.out; omega
      · obtain ⟨h2, h3, h4⟩ := HI.out
        refine Lib.hid ⟨?_, ?_, ?_⟩
        · rw [← h2, framesL_step HOK.out.symm, ← HB.out, List.append_assoc, List.drop_drop]
          rfl
        · rw [restL_snoc, h3]
        · have S3 := HS2.out.drop 1
          rw [List.length_append]
          have e : strL (fl ++ [b]) = strL fl ++ [.string (bs b)] := by simp [strL]
          rw [e]
          exact S3
      · have h8 := H8.out
        simp only [intOf]
        rw [bs_size]
        omega
end
end Go.Proofs.YtdnpobjokajigaaGreatDoor
