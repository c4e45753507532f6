/-
  Maps that a call holds: what they bear, as a list of keys and values, each key once; mlook-up, store, delete, len, clear.
-/
import Derived.Test.YtfphlkkhpccpnabDoorK
import Derived.Maps.OwnSet
namespace Go.Proofs.YtfphlkkhpccpnabDoor.K
open Go.RowKit

/-- What is asked of a key's type. -/
structure KeyOk (P : Program) (K : TypeId) {κ : Type} [DecidableEq κ] (enc : κ → Value) : Prop where
  eq : ∀ (x y : κ) (w : World), (Op.equal K (enc x) (enc y)).run P w = .ok (decide (x = y)) w
  chk : ∀ (x : κ) (b : Bool) (w : World), (Instr.checkKey b 10000 K (enc x)).run P w = .ok () w
  now : ∃ kd, P.underlying K = some kd ∧ ((∀ x y : κ, Instr.sameNow kd (enc x) (enc y) = none) ∨ ∀ x y : κ, Instr.sameNow kd (enc x) (enc y) = some (decide (x = y)))
  stay : ∀ x : κ, Instr.sameBits 10000 (enc x) (enc x) = true

section
variable {κ : Type} [DecidableEq κ]
set_option linter.unusedSectionVars false
set_option linter.unusedSimpArgs false
/-- Where a key stands, and with what. -/
def idxOf (m : List (κ × Value)) (k : κ) : Option (Nat × Value) := (m.findIdx? (fun x => decide (x.1 = k))).bind fun i => (m[i]?).map fun x => (i, x.2)
def mlook (m : List (κ × Value)) (k : κ) : Option Value := (m.find? (fun x => decide (x.1 = k))).map (·.2)
def put (m : List (κ × Value)) (k : κ) (v : Value) : List (κ × Value) := match m.findIdx? (fun x => decide (x.1 = k)) with | some i => m.set i (k, v) | none => m ++ [(k, v)]
def del (m : List (κ × Value)) (k : κ) : List (κ × Value) := match m.findIdx? (fun x => decide (x.1 = k)) with | some i => m.eraseIdx i | none => m

variable {P : Program} {K : TypeId} {enc : κ → Value}

/-- Entries that bear m. -/
def Bears (enc : κ → Value) (es : List MapEntry) (m : List (κ × Value)) : Prop := es.map (fun e => (e.key, e.val)) = m.map fun x => (enc x.1, x.2)

theorem Bears.cons_inv {e : MapEntry} {es : List MapEntry} {m : List (κ × Value)} (h : Bears enc (e :: es) m) : ∃ x m', m = x :: m' ∧ e.key = enc x.1 ∧ e.val = x.2 ∧ Bears enc es m' := by
  cases m with
  | nil => simp [Bears] at h
  | cons x m' =>
    simp only [Bears, List.map_cons, List.cons.injEq, Prod.mk.injEq] at h
    exact ⟨x, m', rfl, h.1.1, h.1.2, h.2⟩
theorem Bears.nil_inv {m : List (κ × Value)} (h : Bears enc [] m) : m = [] := by
  cases m with
  | nil => rfl
  | cons x m' => simp [Bears] at h
theorem Bears.len {es : List MapEntry} {m : List (κ × Value)} (h : Bears enc es m) : es.length = m.length := by
  have := congrArg List.length h
  simpa using this

theorem findAsking_run (hk : KeyOk P K enc) (k : κ) (w : World) : ∀ (es : List MapEntry) (m : List (κ × Value)) (i : Nat), Bears enc es m →
    (Instr.findAsking K (enc k) es i).run P w = .ok ((idxOf m k).map fun x => (x.1 + i, x.2)) w
  | [], m, i, h => by
    obtain rfl := h.nil_inv
    rfl
  | e :: es, m, i, h => by
    obtain ⟨x, m', rfl, h1, h2, h3⟩ := h.cons_inv
    have ih := findAsking_run hk k w es m' (i + 1) h3
    unfold Instr.findAsking
    rw [Sem.run_bind, h1, hk.eq]
    simp only [Result.andThen]
    by_cases e1 : k = x.1
    · have e2 : x.1 = k := e1.symm
      simp [e1, idxOf, List.findIdx?_cons, h2]
    · have e2 : ¬ x.1 = k := fun e => e1 e.symm
      simp only [e1, decide_false, Bool.false_eq_true, if_false, ih]
      simp only [idxOf, List.findIdx?_cons, e2, decide_false, Bool.false_eq_true, if_false]
      congr 1
      cases hf : List.findIdx? (fun x => decide (x.1 = k)) m' with
      | none => simp
      | some j => simp only [Option.map_some, Option.bind_some, List.getElem?_cons_succ]; cases m'[j]? <;> simp; omega
theorem findNow_run {kd : TypeDesc} (hn : ∀ x y : κ, Instr.sameNow kd (enc x) (enc y) = some (decide (x = y))) (k : κ) : ∀ (es : List MapEntry) (m : List (κ × Value)) (i : Nat), Bears enc es m →
    Instr.findNow kd (enc k) es i = some ((idxOf m k).map fun x => (x.1 + i, x.2))
  | [], m, i, h => by
    obtain rfl := h.nil_inv
    rfl
  | e :: es, m, i, h => by
    obtain ⟨x, m', rfl, h1, h2, h3⟩ := h.cons_inv
    have ih := findNow_run hn k es m' (i + 1) h3
    unfold Instr.findNow
    rw [h1, hn]
    by_cases e1 : k = x.1
    · have e2 : x.1 = k := e1.symm
      simp [e1, idxOf, List.findIdx?_cons, h2]
    · have e2 : ¬ x.1 = k := fun e => e1 e.symm
      simp only [e1, decide_false, ih]
      simp only [idxOf, List.findIdx?_cons, e2, decide_false, Bool.false_eq_true, if_false]
      congr 1
      cases hf : List.findIdx? (fun x => decide (x.1 = k)) m' with
      | none => simp
      | some j => simp only [Option.map_some, Option.bind_some, List.getElem?_cons_succ]; cases m'[j]? <;> simp; omega
theorem findKey_run (hk : KeyOk P K enc) (k : κ) (w : World) {es : List MapEntry} {m : List (κ × Value)} (h : Bears enc es m) : (Instr.findKey K (enc k) es).run P w = .ok (idxOf m k) w := by
  obtain ⟨kd, hu, hn⟩ := hk.now
  unfold Instr.findKey
  rw [Sem.run_bind, run_underlying hu]
  simp only [Result.andThen]
  have e0 : ∀ o : Option (Nat × Value), (o.map fun x => (x.1 + 0, x.2)) = o := fun o => by cases o <;> simp
  rcases hn with hn | hn
  · cases es with
    | nil =>
      obtain rfl := h.nil_inv
      rfl
    | cons e es =>
      obtain ⟨x, m', rfl, h1, h2, h3⟩ := h.cons_inv
      have : Instr.findNow kd (enc k) (e :: es) 0 = none := by
        unfold Instr.findNow
        rw [h1, hn]
      rw [this]
      simp only []
      rw [findAsking_run hk k w _ _ 0 h, e0]
  · rw [findNow_run hn k es m 0 h, e0]
    rfl

theorem idxOf_look (m : List (κ × Value)) (k : κ) : (idxOf m k).map (·.2) = mlook m k := by
  unfold idxOf mlook
  induction m with
  | nil => rfl
  | cons x m ih =>
    rw [List.findIdx?_cons, List.find?_cons]
    by_cases e : x.1 = k
    · simp [e]
    · simp only [e, decide_false, Bool.false_eq_true, if_false]
      rw [← ih]
      cases hq : List.findIdx? (fun x => decide (x.1 = k)) m with
      | none => rfl
      | some j => simp only [Option.map_some, Option.bind_some, List.getElem?_cons_succ]; cases m[j]? <;> rfl

/-- A map that bears m, each key once. -/
structure IsMap (enc : κ → Value) (o : Obj) (m : List (κ × Value)) : Prop where
  ex : ∃ es clock, o = .map es clock ∧ Bears enc es.toList m ∧ (∀ e ∈ es.toList, e.born < clock) ∧ (es.toList.map (·.born)).Nodup
  once : (m.map (·.1)).Nodup
/-- .. as a part of memory. -/
def mapP (enc : κ → Value) (c : Nat) (m : List (κ × Value)) : Hp := ⟨fun F w => F c ∧ ∃ o, w.heap[c]? = some o ∧ IsMap enc o m, fun h ⟨hc, o, ho, hm⟩ => ⟨hc, o, (h c hc).trans ho, hm⟩⟩

theorem isMap_new (c : Nat) : IsMap enc (.map #[] c) [] := ⟨⟨#[], c, rfl, rfl, by simp, by simp⟩, by simp⟩

theorem lookup_run (hk : KeyOk P K enc) {t e : TypeId} (ht : P.underlying t = some (.map K e)) {w : World} {c : Nat} {o : Obj} (ho : w.heap[c]? = some o) {m : List (κ × Value)} (hm : IsMap enc o m) {z : Value} (hz : (zeroValue e).run P w = .ok z w) (k : κ) (ok : Bool) :
    (Instr.lookup t (.map (some c)) (enc k) ok).run P w = .ok (if ok then .tuple #[(mlook m k).getD z, .bool (mlook m k).isSome] else (mlook m k).getD z) w := by
  obtain ⟨es, clock, rfl, hb, _, _⟩ := hm.ex
  unfold Instr.lookup
  rw [← idxOf_look]
  simp only [Sem.run_bind, run_underlying ht, Result.andThen, MapKept.run_getObj_map ho, Sem.run_pure, hk.chk]
  rw [findKey_run hk k w hb]
  cases idxOf m k with
  | none => cases ok <;> simp [Sem.run_bind, hz, Result.andThen]
  | some x => cases ok <;> simp [Sem.run_bind, Result.andThen]

theorem len_run {t e : TypeId} (ht : P.underlying t = some (.map K e)) {w : World} {c : Nat} {o : Obj} (ho : w.heap[c]? = some o) {m : List (κ × Value)} (hm : IsMap enc o m) (ty : TypeId) :
    (Builtin.len_ #[t] ty #[.map (some c)]).run P w = .ok (.int .i64 m.length) w := by
  obtain ⟨es, clock, rfl, hb, _, _⟩ := hm.ex
  have := hb.len
  simp [Builtin.len_, run_underlying ht, MapKept.run_getObj_map ho, goInt, Result.andThen]
  rw [← this]; simp

theorem Bears.append {es es' : List MapEntry} {m m' : List (κ × Value)} (h : Bears enc es m) (h' : Bears enc es' m') : Bears enc (es ++ es') (m ++ m') := by
  simp only [Bears, List.map_append] at *
  rw [h, h']
theorem Bears.set {es : List MapEntry} {m : List (κ × Value)} (h : Bears enc es m) (i : Nat) (e : MapEntry) (x : κ × Value) (hk : e.key = enc x.1) (hv : e.val = x.2) : Bears enc (es.set i e) (m.set i x) := by
  simp only [Bears, List.map_set] at *
  rw [h, hk, hv]
theorem map_erase {α β : Type} (f : α → β) : ∀ (l : List α) (i : Nat), (l.eraseIdx i).map f = (l.map f).eraseIdx i
  | [], _ => rfl
  | _ :: _, 0 => rfl
  | x :: l, i + 1 => by simp [map_erase f l i]
theorem modify_at {α : Type} (f : α → α) : ∀ (l : List α) (i : Nat) (h : i < l.length), l.modify i f = l.set i (f l[i])
  | [], _, h => by simp at h
  | _ :: _, 0, _ => rfl
  | x :: l, i + 1, h => by
    have := modify_at f l i (by simpa using h)
    simpa using this
theorem Bears.erase {es : List MapEntry} {m : List (κ × Value)} (h : Bears enc es m) (i : Nat) : Bears enc (es.eraseIdx i) (m.eraseIdx i) := by
  simp only [Bears, map_erase] at *
  rw [h]
theorem find_nodup {m : List (κ × Value)} {k : κ} (h : m.findIdx? (fun x => decide (x.1 = k)) = none) : k ∉ m.map (·.1) := by
  intro hk
  obtain ⟨x, hx, rfl⟩ := List.mem_map.1 hk
  have := List.findIdx?_eq_none_iff.1 h x hx
  simp at this
theorem find_key {m : List (κ × Value)} {k : κ} {i : Nat} (h : m.findIdx? (fun x => decide (x.1 = k)) = some i) : ∃ x, m[i]? = some x ∧ x.1 = k := by
  obtain ⟨hi, hp, _⟩ := List.findIdx?_eq_some_iff_getElem.1 h
  exact ⟨m[i], List.getElem?_eq_getElem hi, by simpa using hp⟩

/-- The world with another object at c. -/
theorem St.wroteMap {c : Nat} {m m' : List (κ × Value)} {o' : Obj} {H0 H : Hs} {w0 w : World} {X : Nat → Prop} {ps : List Hp} (h : St H0 w0 X H w ps) (i : Nat) (hi : ps[i]? = some (mapP enc c m)) (hm : IsMap enc o' m') :
    St H0 w0 X H { w with heap := w.heap.setIfInBounds c o' } (mapP enc c m' :: ps.eraseIdx i) := by
  obtain ⟨F, hp, hF, k⟩ := h.step hi
  have hlt := (hF c hp.1).1
  refine k H _ [mapP enc c m'] (St.wrote (w' := { w with heap := w.heap.setIfInBounds c o' }) (q := mapP enc c m') h.ag hF hp.1 rfl rfl rfl (by simp) (fun x hx => ?_) ⟨hp.1, o', ?_, hm⟩)
  · show (w.heap.setIfInBounds c o')[x]? = _
    rw [Array.getElem?_setIfInBounds]
    rw [if_neg (fun e => hx e.symm)]
  · show (w.heap.setIfInBounds c o')[c]? = _
    rw [Array.getElem?_setIfInBounds, if_pos rfl, if_pos hlt]

theorem update_obj (hk : KeyOk P K enc) {t e : TypeId} (ht : P.underlying t = some (.map K e)) {c : Nat} {o : Obj} {m : List (κ × Value)} (hm : IsMap enc o m) (k : κ) (v : Value) :
    ∃ o', (∀ w : World, w.heap[c]? = some o → (Instr.mapUpdate t (.map (some c)) (enc k) v).run P w = .ok () { w with heap := w.heap.setIfInBounds c o' }) ∧ IsMap enc o' (put m k v) := by
  obtain ⟨es, clock, rfl, hb, hs, hn⟩ := hm.ex
  cases hf : m.findIdx? (fun x => decide (x.1 = k)) with
  | none =>
    refine ⟨.map (es.push { key := enc k, val := v, born := clock }) (clock + 1), fun w ho => ?_, ⟨⟨_, _, rfl, ?_, ?_, ?_⟩, ?_⟩⟩
    · unfold Instr.mapUpdate
      simp only [Sem.run_bind, run_underlying ht, Result.andThen, MapKept.run_getObj_map ho, Sem.run_pure, hk.chk]
      rw [findKey_run hk k w hb]
      simp only [idxOf, hf, Option.bind_none]
      exact MapKept.run_setObj_map _ ho
    · simp only [put, hf, Array.toList_push]
      exact hb.append rfl
    · intro x hx
      simp only [Array.toList_push, List.mem_append, List.mem_singleton] at hx
      rcases hx with hx | rfl
      · have := hs x hx; omega
      · simp
    · simp only [Array.toList_push, List.map_append, List.map_cons, List.map_nil]
      rw [List.nodup_append]
      refine ⟨hn, by simp, ?_⟩
      intro a ha b hb' e
      obtain ⟨x, hx, rfl⟩ := List.mem_map.1 ha
      have := hs x hx
      simp at hb'
      omega
    · simp only [put, hf, List.map_append, List.map_cons, List.map_nil]
      rw [List.nodup_append]
      refine ⟨hm.once, by simp, ?_⟩
      intro a ha b hb' e
      simp at hb'
      subst hb'
      subst e
      exact find_nodup hf ha
  | some i =>
    obtain ⟨x, hx, rfl⟩ := find_key hf
    have hi : i < es.toList.length := by rw [hb.len]; exact (List.getElem?_eq_some_iff.1 hx).1
    have hek : es.toList[i].key = enc x.1 ∧ es.toList[i].val = x.2 := by
      have h1 : (es.toList.map fun e => (e.key, e.val))[i]? = (m.map fun x => (enc x.1, x.2))[i]? := congrArg (·[i]?) hb
      rw [List.getElem?_map, List.getElem?_map, hx, List.getElem?_eq_getElem hi] at h1
      simpa using h1
    have hi' : i < es.size := by simpa using hi
    have e1 : es[i]? = some es.toList[i] := by simp [hi']
    have e2 : es.modify i (fun e => { e with key := enc x.1, val := v }) = (es.toList.set i { es.toList[i] with key := enc x.1, val := v }).toArray := by
      apply Array.ext'
      rw [Array.toList_modify, modify_at _ _ _ hi]
    refine ⟨.map (es.modify i fun e => { e with key := enc x.1, val := v }) clock, fun w ho => ?_, ⟨⟨_, _, rfl, ?_, ?_, ?_⟩, ?_⟩⟩
    · unfold Instr.mapUpdate
      simp only [Sem.run_bind, run_underlying ht, Result.andThen, MapKept.run_getObj_map ho, Sem.run_pure, hk.chk]
      rw [findKey_run hk x.1 w hb]
      simp only [idxOf, hf, Option.bind_some, hx, Option.map_some, e1, Option.getD_some, hek.1, Instr.keyThatStays, hk.stay, if_true, Sem.run_bind, Sem.run_pure, Result.andThen]
      exact MapKept.run_setObj_map _ ho
    · rw [e2]
      simp only [put, hf]
      exact hb.set i _ (x.1, v) rfl rfl
    · rw [e2]
      intro y hy
      rcases List.mem_or_eq_of_mem_set hy with hy | rfl
      · exact hs y hy
      · exact hs es.toList[i] (List.getElem_mem hi)
    · rw [e2]
      show ((es.toList.set i _).map (·.born)).Nodup
      rw [List.map_set]
      have : (es.toList.map (·.born)).set i es.toList[i].born = es.toList.map (·.born) := by
        rw [show es.toList[i].born = (es.toList.map (·.born))[i]'(by simpa using hi) by simp]
        exact List.set_getElem_self _
      rw [this]
      exact hn
    · simp only [put, hf, List.map_set]
      have hl := (List.getElem?_eq_some_iff.1 hx)
      have : (m.map (·.1)).set i x.1 = m.map (·.1) := by
        have e3 : x.1 = (m.map (·.1))[i]'(by simpa using hl.1) := by simp [hl.2]
        rw [e3]
        exact List.set_getElem_self _
      rw [this]
      exact hm.once

theorem update_run (hk : KeyOk P K enc) {t e : TypeId} (ht : P.underlying t = some (.map K e)) {w : World} {c : Nat} {o : Obj} (ho : w.heap[c]? = some o) {m : List (κ × Value)} (hm : IsMap enc o m) (k : κ) (v : Value) :
    ∃ o', (Instr.mapUpdate t (.map (some c)) (enc k) v).run P w = .ok () { w with heap := w.heap.setIfInBounds c o' } ∧ IsMap enc o' (put m k v) := by
  obtain ⟨o', h1, h2⟩ := update_obj (c := c) hk ht hm k v
  exact ⟨o', h1 w ho, h2⟩

theorem delete_run (hk : KeyOk P K enc) {t e : TypeId} (ht : P.underlying t = some (.map K e)) {w : World} {c : Nat} {o : Obj} (ho : w.heap[c]? = some o) {m : List (κ × Value)} (hm : IsMap enc o m) (k : κ) (ty : TypeId) :
    ∃ o', (Builtin.delete_ #[t, K] ty #[.map (some c), enc k]).run P w = .ok (.tuple #[]) { w with heap := w.heap.setIfInBounds c o' } ∧ IsMap enc o' (del m k) := by
  obtain ⟨es, clock, rfl, hb, hs, hn⟩ := hm.ex
  cases hf : m.findIdx? (fun x => decide (x.1 = k)) with
  | none =>
    refine ⟨.map es clock, ?_, by simpa only [del, hf] using hm⟩
    unfold Builtin.delete_
    simp only [List.getElem?_toArray, List.getElem?_cons_zero, List.getElem?_cons_succ, Sem.run_bind, run_underlying ht, Result.andThen, MapKept.run_getObj_map ho, Sem.run_pure, hk.chk]
    rw [findKey_run hk k w hb]
    simp only [idxOf, hf, Option.bind_none]
    rw [Sem.run_bind, MapKept.run_setObj_map _ ho]
    rfl
  | some i =>
    obtain ⟨x, hx, rfl⟩ := find_key hf
    have hi : i < es.toList.length := by rw [hb.len]; exact (List.getElem?_eq_some_iff.1 hx).1
    have e2 : (es.eraseIdxIfInBounds i).toList = es.toList.eraseIdx i := by simp
    refine ⟨.map (es.eraseIdxIfInBounds i) clock, ?_, ⟨⟨_, _, rfl, ?_, ?_, ?_⟩, ?_⟩⟩
    · unfold Builtin.delete_
      simp only [List.getElem?_toArray, List.getElem?_cons_zero, List.getElem?_cons_succ, Sem.run_bind, run_underlying ht, Result.andThen, MapKept.run_getObj_map ho, Sem.run_pure, hk.chk]
      rw [findKey_run hk x.1 w hb]
      simp only [idxOf, hf, Option.bind_some, hx, Option.map_some]
      rw [Sem.run_bind, MapKept.run_setObj_map _ ho]
      rfl
    · rw [e2]
      simp only [del, hf]
      exact hb.erase i
    · rw [e2]
      intro y hy
      exact hs y (List.mem_of_mem_eraseIdx hy)
    · rw [e2, map_erase]
      exact hn.sublist (List.eraseIdx_sublist _ _)
    · simp only [del, hf]
      rw [map_erase]
      exact hm.once.sublist (List.eraseIdx_sublist _ _)

theorem clear_run {t e : TypeId} (ht : P.underlying t = some (.map K e)) {w : World} {c : Nat} {o : Obj} (ho : w.heap[c]? = some o) {m : List (κ × Value)} (hm : IsMap enc o m) (ty : TypeId) :
    ∃ o', (Builtin.clear_ #[t] ty #[.map (some c)]).run P w = .ok (.tuple #[]) { w with heap := w.heap.setIfInBounds c o' } ∧ IsMap enc o' [] := by
  obtain ⟨es, clock, rfl, hb, hs, hn⟩ := hm.ex
  refine ⟨.map #[] clock, ?_, isMap_new clock⟩
  unfold Builtin.clear_
  simp only [List.getElem?_toArray, List.getElem?_cons_zero, Sem.run_bind, run_underlying ht, Result.andThen, MapKept.run_getObj_map ho, Sem.run_pure, MapKept.run_setObj_map _ ho]

section
variable {H0 H : Hs} {w0 w : World} {X : Nat → Prop} {ps : List Hp} {ops : Array Oper} {rest : List Oper} {o : Oper} {a : Act} {Q : Exit → Act → World → Prop} {c : Nat} {m : List (κ × Value)}
/-! For the walk. -/
theorem wpList_lookup_st (i : Nat) (S : St H0 w0 X H w ps) (hi : ps[i]? = some (mapP enc c m)) (hk : KeyOk P K enc) {t e : TypeId} (ht : P.underlying t = some (.map K e)) {z : Value} (hz : (zeroValue e).run P w = .ok z w) (k : κ)
    (hgd : o.guard = none) (x y : Operand) (ok : Bool) (ho : o.op = .lookup t x y ok) (hx : a.eval x = .map (some c)) (hy : a.eval y = enc k)
    (h : wpList P ops Q rest (a.put o.dst (if ok then .tuple #[(mlook m k).getD z, .bool (mlook m k).isSome] else (mlook m k).getD z)) w) : wpList P ops Q (o :: rest) a w := by
  obtain ⟨F, ⟨_, ob, hob, hm⟩, _⟩ := S.step hi
  refine wpList_plain hgd fun K' hK => ?_
  unfold Oper.wp execOp
  simp only [ho, hx, hy, Sem.run_bind, Sem.run_pure, Result.andThen_ok, lookup_run hk ht hob hm hz k ok]
  exact hK _ _ h
theorem wpList_update_st (i : Nat) (S : St H0 w0 X H w ps) (hi : ps[i]? = some (mapP enc c m)) (hk : KeyOk P K enc) {t e : TypeId} (ht : P.underlying t = some (.map K e)) (k : κ)
    (hgd : o.guard = none) (x y z : Operand) (ho : o.op = .mapUpdate t x y z) (hx : a.eval x = .map (some c)) (hy : a.eval y = enc k)
    (h : ∀ w', St H0 w0 X H w' (mapP enc c (put m k (a.eval z)) :: ps.eraseIdx i) → wpList P ops Q rest (a.put o.dst undef) w') : wpList P ops Q (o :: rest) a w := by
  obtain ⟨F, ⟨_, ob, hob, hm⟩, _⟩ := S.step hi
  obtain ⟨o', hrun, hm'⟩ := update_run hk ht hob hm k (a.eval z)
  refine wpList_plain hgd fun K' hK => ?_
  unfold Oper.wp execOp
  simp only [ho, hx, hy, Sem.run_bind, Sem.run_pure, Result.andThen_ok, hrun]
  exact hK _ _ (h _ (S.wroteMap i hi hm'))
theorem wpList_delete_st (i : Nat) (S : St H0 w0 X H w ps) (hi : ps[i]? = some (mapP enc c m)) (hk : KeyOk P K enc) {t e : TypeId} (ht : P.underlying t = some (.map K e)) (k : κ)
    (hgd : o.guard = none) (x y : Operand) (ho : o.op = .call { callee := .builtin .delete, args := #[x, y], argTypes := #[t, K] }) (hx : a.eval x = .map (some c)) (hy : a.eval y = enc k)
    (h : ∀ w', St H0 w0 X H w' (mapP enc c (del m k) :: ps.eraseIdx i) → wpList P ops Q rest (a.put o.dst (.tuple #[])) w') : wpList P ops Q (o :: rest) a w := by
  obtain ⟨F, ⟨_, ob, hob, hm⟩, _⟩ := S.step hi
  obtain ⟨o', hrun, hm'⟩ := delete_run hk ht hob hm k o.type
  refine wpList_plain hgd fun K' hK => ?_
  unfold Oper.wp execOp
  simp only [ho, resolve, invoke, builtin, hx, hy, Sem.run_bind, Sem.run_pure, Result.andThen_ok, List.map_toArray, List.map_cons, List.map_nil, hrun]
  exact hK _ _ (h _ (S.wroteMap i hi hm'))
theorem wpList_clear_st (i : Nat) (S : St H0 w0 X H w ps) (hi : ps[i]? = some (mapP enc c m)) {t e : TypeId} (ht : P.underlying t = some (.map K e))
    (hgd : o.guard = none) (x : Operand) (ho : o.op = .call { callee := .builtin .clear, args := #[x], argTypes := #[t] }) (hx : a.eval x = .map (some c))
    (h : ∀ w', St H0 w0 X H w' (mapP enc c [] :: ps.eraseIdx i) → wpList P ops Q rest (a.put o.dst (.tuple #[])) w') : wpList P ops Q (o :: rest) a w := by
  obtain ⟨F, ⟨_, ob, hob, hm⟩, _⟩ := S.step hi
  obtain ⟨o', hrun, hm'⟩ := clear_run ht hob hm o.type
  refine wpList_plain hgd fun K' hK => ?_
  unfold Oper.wp execOp
  simp only [ho, resolve, invoke, builtin, hx, Sem.run_bind, Sem.run_pure, Result.andThen_ok, List.map_toArray, List.map_cons, List.map_nil, hrun]
  exact hK _ _ (h _ (S.wroteMap i hi hm'))
theorem wpList_maplen_st (i : Nat) (S : St H0 w0 X H w ps) (hi : ps[i]? = some (mapP enc c m)) {t e : TypeId} (ht : P.underlying t = some (.map K e))
    (hgd : o.guard = none) (x : Operand) (ho : o.op = .call { callee := .builtin .len, args := #[x], argTypes := #[t] }) (hx : a.eval x = .map (some c))
    (h : wpList P ops Q rest (a.put o.dst (.int .i64 m.length)) w) : wpList P ops Q (o :: rest) a w := by
  obtain ⟨F, ⟨_, ob, hob, hm⟩, _⟩ := S.step hi
  refine wpList_plain hgd fun K' hK => ?_
  unfold Oper.wp execOp
  simp only [ho, resolve, invoke, builtin, hx, Sem.run_bind, Sem.run_pure, Result.andThen_ok, List.map_toArray, List.map_cons, List.map_nil, len_run ht hob hm o.type]
  exact hK _ _ h
end
end
end Go.Proofs.YtfphlkkhpccpnabDoor.K
