/-
  Maps that a call holds: what they bear, as a list of keys and values, each key once; mlook-up, store, delete, len, clear.
  Small words: a value that is handed back; texts as bytes; a text's bytes in a new row.
  Words: cut, join.
  Words: bytes.
  Words: of bytes.
  A number's bytes; texts; what stands ahead.
-/
import Derived.Test.YtdnpobjokajigaaGreatDoorK
import Derived.Maps.OwnSet
import Derived.Test.YtdnpobjokajigaaGreatDoorProg
import Derived.KernelRfl
import Derived.Outline
import Derived.IntWalk
import Derived.Lib.ConvBytes
import Derived.Lib.UnsafeStr
import Derived.Deep.LoopGhost
import Derived.Laws.BytesArg
import Derived.RegionTactic
import Derived.BigRegion
import Derived.Test.YtdnpobjokajigaaGreatDoorShelf
namespace Go.Proofs.YtdnpobjokajigaaGreatDoor.K
open Go.RowKit

/-- What is asked of a key's type. -/
structure KeyOk (P : Program) (K : TypeId) {κ : Type} [DecidableEq κ] (enc : κ → Value) : Prop where
  eq : ∀ (x y : κ) (w : World), (Op.equal K (enc x) (enc y)).run P w = .ok (decide (x = y)) w
  chk : ∀ (x : κ) (b : Bool) (w : World), (Instr.checkKey b 10000 K (enc x)).run P w = .ok () w
  now : ∃ kd, P.underlying K = some kd ∧ ((∀ x y : κ, Instr.sameNow kd (enc x) (enc y) = none) ∨ ∀ x y : κ, Instr.sameNow kd (enc x) (enc y) = some (decide (x = y)))
  stay : ∀ x : κ, Instr.sameBits 10000 (enc x) (enc x) = true

section
variable {κ : Type} [DecidableEq κ]
set_option linter.unusedSectionVars false
set_option linter.unusedSimpArgs false
/-- Where a key stands, and with what. -/
def idxOf (m : List (κ × Value)) (k : κ) : Option (Nat × Value) := (m.findIdx? (fun x => decide (x.1 = k))).bind fun i => (m[i]?).map fun x => (i, x.2)
def mlook (m : List (κ × Value)) (k : κ) : Option Value := (m.find? (fun x => decide (x.1 = k))).map (·.2)
def put (m : List (κ × Value)) (k : κ) (v : Value) : List (κ × Value) := match m.findIdx? (fun x => decide (x.1 = k)) with | some i => m.set i (k, v) | none => m ++ [(k, v)]
def del (m : List (κ × Value)) (k : κ) : List (κ × Value) := match m.findIdx? (fun x => decide (x.1 = k)) with | some i => m.eraseIdx i | none => m

variable {P : Program} {K : TypeId} {enc : κ → Value}

/-- Entries that bear m. -/
def Bears (enc : κ → Value) (es : List MapEntry) (m : List (κ × Value)) : Prop := es.map (fun e => (e.key, e.val)) = m.map fun x => (enc x.1, x.2)

theorem Bears.cons_inv {e : MapEntry} {es : List MapEntry} {m : List (κ × Value)} (h : Bears enc (e :: es) m) : ∃ x m', m = x :: m' ∧ e.key = enc x.1 ∧ e.val = x.2 ∧ Bears enc es m' := by
  cases m with
  | nil => simp [Bears] at h
  | cons x m' =>
    simp only [Bears, List.map_cons, List.cons.injEq, Prod.mk.injEq] at h
    exact ⟨x, m', rfl, h.1.1, h.1.2, h.2⟩
theorem Bears.nil_inv {m : List (κ × Value)} (h : Bears enc [] m) : m = [] := by
  cases m with
  | nil => rfl
  | cons x m' => simp [Bears] at h
theorem Bears.len {es : List MapEntry} {m : List (κ × Value)} (h : Bears enc es m) : es.length = m.length := by
  have := congrArg List.length h
  simpa using this

theorem findAsking_run (hk : KeyOk P K enc) (k : κ) (w : World) : ∀ (es : List MapEntry) (m : List (κ × Value)) (i : Nat), Bears enc es m →
    (Instr.findAsking K (enc k) es i).run P w = .ok ((idxOf m k).map fun x => (x.1 + i, x.2)) w
  | [], m, i, h => by
    obtain rfl := h.nil_inv
    rfl
  | e :: es, m, i, h => by
    obtain ⟨x, m', rfl, h1, h2, h3⟩ := h.cons_inv
    have ih := findAsking_run hk k w es m' (i + 1) h3
    unfold Instr.findAsking
    rw [Sem.run_bind, h1, hk.eq]
    simp only [Result.andThen]
    by_cases e1 : k = x.1
    · have e2 : x.1 = k := e1.symm
      simp [e1, idxOf, List.findIdx?_cons, h2]
    · have e2 : ¬ x.1 = k := fun e => e1 e.symm
      simp only [e1, decide_false, Bool.false_eq_true, if_false, ih]
      simp only [idxOf, List.findIdx?_cons, e2, decide_false, Bool.false_eq_true, if_false]
      congr 1
      cases hf : List.findIdx? (fun x => decide (x.1 = k)) m' with
      | none => simp
      | some j => simp only [Option.map_some, Option.bind_some, List.getElem?_cons_succ]; cases m'[j]? <;> simp; omega
theorem findNow_run {kd : TypeDesc} (hn : ∀ x y : κ, Instr.sameNow kd (enc x) (enc y) = some (decide (x = y))) (k : κ) : ∀ (es : List MapEntry) (m : List (κ × Value)) (i : Nat), Bears enc es m →
    Instr.findNow kd (enc k) es i = some ((idxOf m k).map fun x => (x.1 + i, x.2))
  | [], m, i, h => by
    obtain rfl := h.nil_inv
    rfl
  | e :: es, m, i, h => by
    obtain ⟨x, m', rfl, h1, h2, h3⟩ := h.cons_inv
    have ih := findNow_run hn k es m' (i + 1) h3
    unfold Instr.findNow
    rw [h1, hn]
    by_cases e1 : k = x.1
    · have e2 : x.1 = k := e1.symm
      simp [e1, idxOf, List.findIdx?_cons, h2]
    · have e2 : ¬ x.1 = k := fun e => e1 e.symm
      simp only [e1, decide_false, ih]
      simp only [idxOf, List.findIdx?_cons, e2, decide_false, Bool.false_eq_true, if_false]
      congr 1
      cases hf : List.findIdx? (fun x => decide (x.1 = k)) m' with
      | none => simp
      | some j => simp only [Option.map_some, Option.bind_some, List.getElem?_cons_succ]; cases m'[j]? <;> simp; omega
theorem findKey_run (hk : KeyOk P K enc) (k : κ) (w : World) {es : List MapEntry} {m : List (κ × Value)} (h : Bears enc es m) : (Instr.findKey K (enc k) es).run P w = .ok (idxOf m k) w := by
  obtain ⟨kd, hu, hn⟩ := hk.now
  unfold Instr.findKey
  rw [Sem.run_bind, run_underlying hu]
  simp only [Result.andThen]
  have e0 : ∀ o : Option (Nat × Value), (o.map fun x => (x.1 + 0, x.2)) = o := fun o => by cases o <;> simp
  rcases hn with hn | hn
  · cases es with
    | nil =>
      obtain rfl := h.nil_inv
      rfl
    | cons e es =>
      obtain ⟨x, m', rfl, h1, h2, h3⟩ := h.cons_inv
      have : Instr.findNow kd (enc k) (e :: es) 0 = none := by
        unfold Instr.findNow
        rw [h1, hn]
      rw [this]
      simp only []
      rw [findAsking_run hk k w _ _ 0 h, e0]
  · rw [findNow_run hn k es m 0 h, e0]
    rfl

theorem idxOf_look (m : List (κ × Value)) (k : κ) : (idxOf m k).map (·.2) = mlook m k := by
  unfold idxOf mlook
  induction m with
  | nil => rfl
  | cons x m ih =>
    rw [List.findIdx?_cons, List.find?_cons]
    by_cases e : x.1 = k
    · simp [e]
    · simp only [e, decide_false, Bool.false_eq_true, if_false]
      rw [← ih]
      cases hq : List.findIdx? (fun x => decide (x.1 = k)) m with
      | none => rfl
      | some j => simp only [Option.map_some, Option.bind_some, List.getElem?_cons_succ]; cases m[j]? <;> rfl

/-- A map that bears m, each key once. -/
structure IsMap (enc : κ → Value) (o : Obj) (m : List (κ × Value)) : Prop where
  ex : ∃ es clock, o = .map es clock ∧ Bears enc es.toList m ∧ (∀ e ∈ es.toList, e.born < clock) ∧ (es.toList.map (·.born)).Nodup
  once : (m.map (·.1)).Nodup
/-- .. as a part of memory. -/
def mapP (enc : κ → Value) (c : Nat) (m : List (κ × Value)) : Hp := ⟨fun F w => F c ∧ ∃ o, w.heap[c]? = some o ∧ IsMap enc o m, fun h ⟨hc, o, ho, hm⟩ => ⟨hc, o, (h c hc).trans ho, hm⟩⟩

theorem isMap_new (c : Nat) : IsMap enc (.map #[] c) [] := ⟨⟨#[], c, rfl, rfl, by simp, by simp⟩, by simp⟩

theorem lookup_run (hk : KeyOk P K enc) {t e : TypeId} (ht : P.underlying t = some (.map K e)) {w : World} {c : Nat} {o : Obj} (ho : w.heap[c]? = some o) {m : List (κ × Value)} (hm : IsMap enc o m) {z : Value} (hz : (zeroValue e).run P w = .ok z w) (k : κ) (ok : Bool) :
    (Instr.lookup t (.map (some c)) (enc k) ok).run P w = .ok (if ok then .tuple #[(mlook m k).getD z, .bool (mlook m k).isSome] else (mlook m k).getD z) w := by
  obtain ⟨es, clock, rfl, hb, _, _⟩ := hm.ex
  unfold Instr.lookup
  rw [← idxOf_look]
  simp only [Sem.run_bind, run_underlying ht, Result.andThen, MapKept.run_getObj_map ho, Sem.run_pure, hk.chk]
  rw [findKey_run hk k w hb]
  cases idxOf m k with
  | none => cases ok <;> simp [Sem.run_bind, hz, Result.andThen]
  | some x => cases ok <;> simp [Sem.run_bind, Result.andThen]

theorem len_run {t e : TypeId} (ht : P.underlying t = some (.map K e)) {w : World} {c : Nat} {o : Obj} (ho : w.heap[c]? = some o) {m : List (κ × Value)} (hm : IsMap enc o m) (ty : TypeId) :
    (Builtin.len_ #[t] ty #[.map (some c)]).run P w = .ok (.int .i64 m.length) w := by
  obtain ⟨es, clock, rfl, hb, _, _⟩ := hm.ex
  have := hb.len
  simp [Builtin.len_, run_underlying ht, MapKept.run_getObj_map ho, goInt, Result.andThen]
  rw [← this]; simp

theorem Bears.append {es es' : List MapEntry} {m m' : List (κ × Value)} (h : Bears enc es m) (h' : Bears enc es' m') : Bears enc (es ++ es') (m ++ m') := by
  simp only [Bears, List.map_append] at *
  rw [h, h']
theorem Bears.set {es : List MapEntry} {m : List (κ × Value)} (h : Bears enc es m) (i : Nat) (e : MapEntry) (x : κ × Value) (hk : e.key = enc x.1) (hv : e.val = x.2) : Bears enc (es.set i e) (m.set i x) := by
  simp only [Bears, List.map_set] at *
  rw [h, hk, hv]
theorem map_erase {α β : Type} (f : α → β) : ∀ (l : List α) (i : Nat), (l.eraseIdx i).map f = (l.map f).eraseIdx i
  | [], _ => rfl
  | _ :: _, 0 => rfl
  | x :: l, i + 1 => by simp [map_erase f l i]
theorem modify_at {α : Type} (f : α → α) : ∀ (l : List α) (i : Nat) (h : i < l.length), l.modify i f = l.set i (f l[i])
  | [], _, h => by simp at h
  | _ :: _, 0, _ => rfl
  | x :: l, i + 1, h => by
    have := modify_at f l i (by simpa using h)
    simpa using this
theorem Bears.erase {es : List MapEntry} {m : List (κ × Value)} (h : Bears enc es m) (i : Nat) : Bears enc (es.eraseIdx i) (m.eraseIdx i) := by
  simp only [Bears, map_erase] at *
  rw [h]
theorem find_nodup {m : List (κ × Value)} {k : κ} (h : m.findIdx? (fun x => decide (x.1 = k)) = none) : k ∉ m.map (·.1) := by
  intro hk
  obtain ⟨x, hx, rfl⟩ := List.mem_map.1 hk
  have := List.findIdx?_eq_none_iff.1 h x hx
  simp at this
theorem find_key {m : List (κ × Value)} {k : κ} {i : Nat} (h : m.findIdx? (fun x => decide (x.1 = k)) = some i) : ∃ x, m[i]? = some x ∧ x.1 = k := by
  obtain ⟨hi, hp, _⟩ := List.findIdx?_eq_some_iff_getElem.1 h
  exact ⟨m[i], List.getElem?_eq_getElem hi, by simpa using hp⟩

/-- The world with another object at c. -/
theorem St.wroteMap {c : Nat} {m m' : List (κ × Value)} {o' : Obj} {H0 H : Hs} {w0 w : World} {X : Nat → Prop} {ps : List Hp} (h : St H0 w0 X H w ps) (i : Nat) (hi : ps[i]? = some (mapP enc c m)) (hm : IsMap enc o' m') :
    St H0 w0 X H { w with heap := w.heap.setIfInBounds c o' } (mapP enc c m' :: ps.eraseIdx i) := by
  obtain ⟨F, hp, hF, k⟩ := h.step hi
  have hlt := (hF c hp.1).1
  refine k H _ [mapP enc c m'] (St.wrote (w' := { w with heap := w.heap.setIfInBounds c o' }) (q := mapP enc c m') h.ag hF hp.1 rfl rfl rfl (by simp) (fun x hx => ?_) ⟨hp.1, o', ?_, hm⟩)
  · show (w.heap.setIfInBounds c o')[x]? = _
    rw [Array.getElem?_setIfInBounds]
    rw [if_neg (fun e => hx e.symm)]
  · show (w.heap.setIfInBounds c o')[c]? = _
    rw [Array.getElem?_setIfInBounds, if_pos rfl, if_pos hlt]

theorem update_obj (hk : KeyOk P K enc) {t e : TypeId} (ht : P.underlying t = some (.map K e)) {c : Nat} {o : Obj} {m : List (κ × Value)} (hm : IsMap enc o m) (k : κ) (v : Value) :
    ∃ o', (∀ w : World, w.heap[c]? = some o → (Instr.mapUpdate t (.map (some c)) (enc k) v).run P w = .ok () { w with heap := w.heap.setIfInBounds c o' }) ∧ IsMap enc o' (put m k v) := by
  obtain ⟨es, clock, rfl, hb, hs, hn⟩ := hm.ex
  cases hf : m.findIdx? (fun x => decide (x.1 = k)) with
  | none =>
    refine ⟨.map (es.push { key := enc k, val := v, born := clock }) (clock + 1), fun w ho => ?_, ⟨⟨_, _, rfl, ?_, ?_, ?_⟩, ?_⟩⟩
    · unfold Instr.mapUpdate
      simp only [Sem.run_bind, run_underlying ht, Result.andThen, MapKept.run_getObj_map ho, Sem.run_pure, hk.chk]
      rw [findKey_run hk k w hb]
      simp only [idxOf, hf, Option.bind_none]
      exact MapKept.run_setObj_map _ ho
    · simp only [put, hf, Array.toList_push]
      exact hb.append rfl
    · intro x hx
      simp only [Array.toList_push, List.mem_append, List.mem_singleton] at hx
      rcases hx with hx | rfl
      · have := hs x hx; omega
      · simp
    · simp only [Array.toList_push, List.map_append, List.map_cons, List.map_nil]
      rw [List.nodup_append]
      refine ⟨hn, by simp, ?_⟩
      intro a ha b hb' e
      obtain ⟨x, hx, rfl⟩ := List.mem_map.1 ha
      have := hs x hx
      simp at hb'
      omega
    · simp only [put, hf, List.map_append, List.map_cons, List.map_nil]
      rw [List.nodup_append]
      refine ⟨hm.once, by simp, ?_⟩
      intro a ha b hb' e
      simp at hb'
      subst hb'
      subst e
      exact find_nodup hf ha
  | some i =>
    obtain ⟨x, hx, rfl⟩ := find_key hf
    have hi : i < es.toList.length := by rw [hb.len]; exact (List.getElem?_eq_some_iff.1 hx).1
    have hek : es.toList[i].key = enc x.1 ∧ es.toList[i].val = x.2 := by
      have h1 : (es.toList.map fun e => (e.key, e.val))[i]? = (m.map fun x => (enc x.1, x.2))[i]? := congrArg (·[i]?) hb
      rw [List.getElem?_map, List.getElem?_map, hx, List.getElem?_eq_getElem hi] at h1
      simpa using h1
    have hi' : i < es.size := by simpa using hi
    have e1 : es[i]? = some es.toList[i] := by simp [hi']
    have e2 : es.modify i (fun e => { e with key := enc x.1, val := v }) = (es.toList.set i { es.toList[i] with key := enc x.1, val := v }).toArray := by
      apply Array.ext'
      rw [Array.toList_modify, modify_at _ _ _ hi]
    refine ⟨.map (es.modify i fun e => { e with key := enc x.1, val := v }) clock, fun w ho => ?_, ⟨⟨_, _, rfl, ?_, ?_, ?_⟩, ?_⟩⟩
    · unfold Instr.mapUpdate
      simp only [Sem.run_bind, run_underlying ht, Result.andThen, MapKept.run_getObj_map ho, Sem.run_pure, hk.chk]
      rw [findKey_run hk x.1 w hb]
      simp only [idxOf, hf, Option.bind_some, hx, Option.map_some, e1, Option.getD_some, hek.1, Instr.keyThatStays, hk.stay, if_true, Sem.run_bind, Sem.run_pure, Result.andThen]
      exact MapKept.run_setObj_map _ ho
    · rw [e2]
      simp only [put, hf]
      exact hb.set i _ (x.1, v) rfl rfl
    · rw [e2]
      intro y hy
      rcases List.mem_or_eq_of_mem_set hy with hy | rfl
      · exact hs y hy
      · exact hs es.toList[i] (List.getElem_mem hi)
    · rw [e2]
      show ((es.toList.set i _).map (·.born)).Nodup
      rw [List.map_set]
      have : (es.toList.map (·.born)).set i es.toList[i].born = es.toList.map (·.born) := by
        rw [show es.toList[i].born = (es.toList.map (·.born))[i]'(by simpa using hi) by simp]
        exact List.set_getElem_self _
      rw [this]
      exact hn
    · simp only [put, hf, List.map_set]
      have hl := (List.getElem?_eq_some_iff.1 hx)
      have : (m.map (·.1)).set i x.1 = m.map (·.1) := by
        have e3 : x.1 = (m.map (·.1))[i]'(by simpa using hl.1) := by simp [hl.2]
        rw [e3]
        exact List.set_getElem_self _
      rw [this]
      exact hm.once

theorem update_run (hk : KeyOk P K enc) {t e : TypeId} (ht : P.underlying t = some (.map K e)) {w : World} {c : Nat} {o : Obj} (ho : w.heap[c]? = some o) {m : List (κ × Value)} (hm : IsMap enc o m) (k : κ) (v : Value) :
    ∃ o', (Instr.mapUpdate t (.map (some c)) (enc k) v).run P w = .ok () { w with heap := w.heap.setIfInBounds c o' } ∧ IsMap enc o' (put m k v) := by
  obtain ⟨o', h1, h2⟩ := update_obj (c := c) hk ht hm k v
  exact ⟨o', h1 w ho, h2⟩

theorem delete_run (hk : KeyOk P K enc) {t e : TypeId} (ht : P.underlying t = some (.map K e)) {w : World} {c : Nat} {o : Obj} (ho : w.heap[c]? = some o) {m : List (κ × Value)} (hm : IsMap enc o m) (k : κ) (ty : TypeId) :
    ∃ o', (Builtin.delete_ #[t, K] ty #[.map (some c), enc k]).run P w = .ok (.tuple #[]) { w with heap := w.heap.setIfInBounds c o' } ∧ IsMap enc o' (del m k) := by
  obtain ⟨es, clock, rfl, hb, hs, hn⟩ := hm.ex
  cases hf : m.findIdx? (fun x => decide (x.1 = k)) with
  | none =>
    refine ⟨.map es clock, ?_, by simpa only [del, hf] using hm⟩
    unfold Builtin.delete_
    simp only [List.getElem?_toArray, List.getElem?_cons_zero, List.getElem?_cons_succ, Sem.run_bind, run_underlying ht, Result.andThen, MapKept.run_getObj_map ho, Sem.run_pure, hk.chk]
    rw [findKey_run hk k w hb]
    simp only [idxOf, hf, Option.bind_none]
    rw [Sem.run_bind, MapKept.run_setObj_map _ ho]
    rfl
  | some i =>
    obtain ⟨x, hx, rfl⟩ := find_key hf
    have hi : i < es.toList.length := by rw [hb.len]; exact (List.getElem?_eq_some_iff.1 hx).1
    have e2 : (es.eraseIdxIfInBounds i).toList = es.toList.eraseIdx i := by simp
    refine ⟨.map (es.eraseIdxIfInBounds i) clock, ?_, ⟨⟨_, _, rfl, ?_, ?_, ?_⟩, ?_⟩⟩
    · unfold Builtin.delete_
      simp only [List.getElem?_toArray, List.getElem?_cons_zero, List.getElem?_cons_succ, Sem.run_bind, run_underlying ht, Result.andThen, MapKept.run_getObj_map ho, Sem.run_pure, hk.chk]
      rw [findKey_run hk x.1 w hb]
      simp only [idxOf, hf, Option.bind_some, hx, Option.map_some]
      rw [Sem.run_bind, MapKept.run_setObj_map _ ho]
      rfl
    · rw [e2]
      simp only [del, hf]
      exact hb.erase i
    · rw [e2]
      intro y hy
      exact hs y (List.mem_of_mem_eraseIdx hy)
    · rw [e2, map_erase]
      exact hn.sublist (List.eraseIdx_sublist _ _)
    · simp only [del, hf]
      rw [map_erase]
      exact hm.once.sublist (List.eraseIdx_sublist _ _)

theorem clear_run {t e : TypeId} (ht : P.underlying t = some (.map K e)) {w : World} {c : Nat} {o : Obj} (ho : w.heap[c]? = some o) {m : List (κ × Value)} (hm : IsMap enc o m) (ty : TypeId) :
    ∃ o', (Builtin.clear_ #[t] ty #[.map (some c)]).run P w = .ok (.tuple #[]) { w with heap := w.heap.setIfInBounds c o' } ∧ IsMap enc o' [] := by
  obtain ⟨es, clock, rfl, hb, hs, hn⟩ := hm.ex
  refine ⟨.map #[] clock, ?_, isMap_new clock⟩
  unfold Builtin.clear_
  simp only [List.getElem?_toArray, List.getElem?_cons_zero, Sem.run_bind, run_underlying ht, Result.andThen, MapKept.run_getObj_map ho, Sem.run_pure, MapKept.run_setObj_map _ ho]

section
variable {H0 H : Hs} {w0 w : World} {X : Nat → Prop} {ps : List Hp} {ops : Array Oper} {rest : List Oper} {o : Oper} {a : Act} {Q : Exit → Act → World → Prop} {c : Nat} {m : List (κ × Value)}
/-! For the walk. -/
theorem wpList_lookup_st (i : Nat) (S : St H0 w0 X H w ps) (hi : ps[i]? = some (mapP enc c m)) (hk : KeyOk P K enc) {t e : TypeId} (ht : P.underlying t = some (.map K e)) {z : Value} (hz : (zeroValue e).run P w = .ok z w) (k : κ)
    (hgd : o.guard = none) (x y : Operand) (ok : Bool) (ho : o.op = .lookup t x y ok) (hx : a.eval x = .map (some c)) (hy : a.eval y = enc k)
    (h : wpList P ops Q rest (a.put o.dst (if ok then .tuple #[(mlook m k).getD z, .bool (mlook m k).isSome] else (mlook m k).getD z)) w) : wpList P ops Q (o :: rest) a w := by
  obtain ⟨F, ⟨_, ob, hob, hm⟩, _⟩ := S.step hi
  refine wpList_plain hgd fun K' hK => ?_
  unfold Oper.wp execOp
  simp only [ho, hx, hy, Sem.run_bind, Sem.run_pure, Result.andThen_ok, lookup_run hk ht hob hm hz k ok]
  exact hK _ _ h
theorem wpList_update_st (i : Nat) (S : St H0 w0 X H w ps) (hi : ps[i]? = some (mapP enc c m)) (hk : KeyOk P K enc) {t e : TypeId} (ht : P.underlying t = some (.map K e)) (k : κ)
    (hgd : o.guard = none) (x y z : Operand) (ho : o.op = .mapUpdate t x y z) (hx : a.eval x = .map (some c)) (hy : a.eval y = enc k)
    (h : ∀ w', St H0 w0 X H w' (mapP enc c (put m k (a.eval z)) :: ps.eraseIdx i) → wpList P ops Q rest (a.put o.dst undef) w') : wpList P ops Q (o :: rest) a w := by
  obtain ⟨F, ⟨_, ob, hob, hm⟩, _⟩ := S.step hi
  obtain ⟨o', hrun, hm'⟩ := update_run hk ht hob hm k (a.eval z)
  refine wpList_plain hgd fun K' hK => ?_
  unfold Oper.wp execOp
  simp only [ho, hx, hy, Sem.run_bind, Sem.run_pure, Result.andThen_ok, hrun]
  exact hK _ _ (h _ (S.wroteMap i hi hm'))
theorem wpList_delete_st (i : Nat) (S : St H0 w0 X H w ps) (hi : ps[i]? = some (mapP enc c m)) (hk : KeyOk P K enc) {t e : TypeId} (ht : P.underlying t = some (.map K e)) (k : κ)
    (hgd : o.guard = none) (x y : Operand) (ho : o.op = .call { callee := .builtin .delete, args := #[x, y], argTypes := #[t, K] }) (hx : a.eval x = .map (some c)) (hy : a.eval y = enc k)
    (h : ∀ w', St H0 w0 X H w' (mapP enc c (del m k) :: ps.eraseIdx i) → wpList P ops Q rest (a.put o.dst (.tuple #[])) w') : wpList P ops Q (o :: rest) a w := by
  obtain ⟨F, ⟨_, ob, hob, hm⟩, _⟩ := S.step hi
  obtain ⟨o', hrun, hm'⟩ := delete_run hk ht hob hm k o.type
  refine wpList_plain hgd fun K' hK => ?_
  unfold Oper.wp execOp
  simp only [ho, resolve, invoke, builtin, hx, hy, Sem.run_bind, Sem.run_pure, Result.andThen_ok, List.map_toArray, List.map_cons, List.map_nil, hrun]
  exact hK _ _ (h _ (S.wroteMap i hi hm'))
theorem wpList_clear_st (i : Nat) (S : St H0 w0 X H w ps) (hi : ps[i]? = some (mapP enc c m)) {t e : TypeId} (ht : P.underlying t = some (.map K e))
    (hgd : o.guard = none) (x : Operand) (ho : o.op = .call { callee := .builtin .clear, args := #[x], argTypes := #[t] }) (hx : a.eval x = .map (some c))
    (h : ∀ w', St H0 w0 X H w' (mapP enc c [] :: ps.eraseIdx i) → wpList P ops Q rest (a.put o.dst (.tuple #[])) w') : wpList P ops Q (o :: rest) a w := by
  obtain ⟨F, ⟨_, ob, hob, hm⟩, _⟩ := S.step hi
  obtain ⟨o', hrun, hm'⟩ := clear_run ht hob hm o.type
  refine wpList_plain hgd fun K' hK => ?_
  unfold Oper.wp execOp
  simp only [ho, resolve, invoke, builtin, hx, Sem.run_bind, Sem.run_pure, Result.andThen_ok, List.map_toArray, List.map_cons, List.map_nil, hrun]
  exact hK _ _ (h _ (S.wroteMap i hi hm'))
theorem wpList_maplen_st (i : Nat) (S : St H0 w0 X H w ps) (hi : ps[i]? = some (mapP enc c m)) {t e : TypeId} (ht : P.underlying t = some (.map K e))
    (hgd : o.guard = none) (x : Operand) (ho : o.op = .call { callee := .builtin .len, args := #[x], argTypes := #[t] }) (hx : a.eval x = .map (some c))
    (h : wpList P ops Q rest (a.put o.dst (.int .i64 m.length)) w) : wpList P ops Q (o :: rest) a w := by
  obtain ⟨F, ⟨_, ob, hob, hm⟩, _⟩ := S.step hi
  refine wpList_plain hgd fun K' hK => ?_
  unfold Oper.wp execOp
  simp only [ho, resolve, invoke, builtin, hx, Sem.run_bind, Sem.run_pure, Result.andThen_ok, List.map_toArray, List.map_cons, List.map_nil, len_run ht hob hm o.type]
  exact hK _ _ h
end
end
end Go.Proofs.YtdnpobjokajigaaGreatDoor.K

namespace Go.Proofs.YtdnpobjokajigaaGreatDoor
open Go.RowKit Go.Proofs K
set_option linter.unusedVariables false

/-- A value is handed back, all old memory is as it was. -/
def RetV (v : Value) (w : World) (e : Ending) (w' : World) : Prop := e = .returned v ∧ Below w.heap.size w w'
def bs (l : List UInt8) : ByteArray := ⟨l.toArray⟩
theorem bs_size (l : List UInt8) : (bs l).size = l.length := by simp [bs, ByteArray.size]
theorem below_bytes (w : World) (e : TypeId) (s : ByteArray) : Below w.heap.size w (Lib.bytesWorld w e s) :=
  Lib.below_freeze ((Below.drew (Below.refl _ w)).alloc (Nat.le_refl _) _) (p := ⟨w.heap.size, _, none⟩) (Nat.le_refl _) 1
theorem made_below {H : Hs} {w w' : World} (hw : Ag H w) (hb : Below w.heap.size w w') {o : Obj} (ho : w'.heap[w.heap.size]? = some o) : St H w none_ H w' [blk w.heap.size o] :=
  ⟨hb.os, hb.tape, hb.output, hb.size, fun k hk _ => hb.block k hk, Le.refl _, fun _ _ h => .inl h, ag_below hw hb,
    fun b => b = w.heap.size, none_, ⟨rfl, ho⟩, fun b hb => ⟨by subst hb; exact (Array.getElem?_eq_some_iff.1 ho).1, .inl (by subst hb; exact Nat.le_refl _), by subst hb; exact ag_none hw (Nat.le_refl _)⟩, fun _ h => h.elim, fun _ _ h => h, trivial⟩
/-- A text's bytes in a new row, some room behind them. -/
def bytesO (l : List UInt8) (r : Nat) : Obj := .cells ((l.map fun b => Value.int .u8 b.toNat).toArray ++ Array.replicate r (.int .u8 0)) 5 (l.length + r, l.length + r + 1)
theorem bytes_st {H0 H : Hs} {w0 w : World} {X : Nat → Prop} {ps : List Hp} (S : St H0 w0 X H w ps) (s : ByteArray) : ∃ r, St H0 w0 X H (Lib.bytesWorld w 5 s) (blk w.heap.size (bytesO s.data.toList r) :: ps) := by
  refine ⟨grownCap w s.size 0 5 - s.size, S.more (made_below S.ag (below_bytes w 5 s) ?_)⟩
  rw [Lib.bytesWorld_at_new]
  have hs : s.data.size = s.data.toList.length := by simp
  have e : Lib.bytesCells w 5 s = (s.data.toList.map fun b => Value.int .u8 b.toNat).toArray ++ Array.replicate (grownCap w s.size 0 5 - s.size) (.int .u8 0) := by
    unfold Lib.bytesCells
    congr 1
    apply Array.toList_inj.1
    simp
  unfold bytesO
  rw [e]
  simp
theorem bytesO_at {l : List UInt8} {r j : Nat} (h : j < l.length) : ((l.map fun b => Value.int .u8 b.toNat).toArray ++ Array.replicate r (Value.int .u8 0))[j]? = some (.int .u8 (l.getD j 0).toNat) := by
  rw [Array.getElem?_append_left (by simpa using h)]
  simp [h]
end Go.Proofs.YtdnpobjokajigaaGreatDoor

namespace Go.Proofs.YtdnpobjokajigaaGreatDoor
open Go.RowKit Go.Proofs K

theorem cut_any (a b c d : Int) (w : World) : Calls Tryz.prog 98 #[.agg #[.int .u64 a, .int .u64 b, .int .u64 c, .int .u64 d]] w (RetV (.agg #[.int .u64 d, .int .u64 c, .int .u64 b, .int .u64 a]) w) := by
  go_enter Tryz.func98, Tryz.ntmps98
  go_wp2
  exact bodyPost_ret (v := .agg #[.int .u64 d, .int .u64 c, .int .u64 b, .int .u64 a]) (by simp [results, Tryz.results98, go_sem]) rfl ⟨rfl, ((Below.refl _ _).alloc (Nat.le_refl _) _).alloc (by simp) _⟩
theorem join_any (a b c d : Int) (w : World) : Calls Tryz.prog 154 #[.agg #[.int .u64 a, .int .u64 b, .int .u64 c, .int .u64 d]] w (RetV (.agg #[.int .u64 d, .int .u64 c, .int .u64 b, .int .u64 a]) w) := by
  go_enter Tryz.func154, Tryz.ntmps154
  go_wp2
  exact bodyPost_ret (v := .agg #[.int .u64 d, .int .u64 c, .int .u64 b, .int .u64 a]) (by simp [results, Tryz.results154, go_sem]) rfl ⟨rfl, ((Below.refl _ _).alloc (Nat.le_refl _) _).alloc (by simp) _⟩
end Go.Proofs.YtdnpobjokajigaaGreatDoor

namespace Go.Proofs.YtdnpobjokajigaaGreatDoor
open Go.RowKit Go.Proofs K

/-- A word's part of 64 bits, the lowest first; its byte i, the lowest first. -/
def lim (a b c d : Int) (k : Nat) : Int := match k with | 0 => d | 1 => c | 2 => b | 3 => a | _ => 0
def wbyte (a b c d : Int) (i : Nat) : Int := lim a b c d (i / 8) / 2 ^ (i % 8 * 8) % 256
def wbCells (a b c d : Int) (k : Nat) : Array Value := ((List.range 32).map fun j => Value.int .u8 (if 31 - j < k then wbyte a b c d (31 - j) else 0)).toArray
def W64 (a : Int) : Prop := 0 ≤ a ∧ a < 18446744073709551616
theorem wbCells_at (a b c d : Int) (k : Nat) {j : Nat} (h : j < 32) : (wbCells a b c d k)[j]? = some (.int .u8 (if 31 - j < k then wbyte a b c d (31 - j) else 0)) := by
  simp [wbCells, h]
theorem wbCells_set (a b c d : Int) {k : Nat} (h : k < 32) : (wbCells a b c d k).setIfInBounds (31 - k) (.int .u8 (wbyte a b c d k)) = wbCells a b c d (k + 1) := by
  apply Array.ext_getElem?
  intro j
  rw [Array.getElem?_setIfInBounds]
  by_cases hj : j < 32
  · rw [wbCells_at _ _ _ _ _ hj, wbCells_at _ _ _ _ _ hj]
    by_cases e : 31 - k = j
    · rw [if_pos e, if_pos (by simp [wbCells]; omega), if_pos (by omega), show 31 - j = k by omega]
    · rw [if_neg e]
      by_cases h2 : 31 - j < k
      · rw [if_pos h2, if_pos (by omega)]
      · rw [if_neg h2, if_neg (by omega)]
  · have e1 : ∀ k, (wbCells a b c d k)[j]? = none := fun k => Array.getElem?_eq_none (by simp [wbCells]; omega)
    rw [e1, e1, if_neg (by omega)]
/-- A word's bytes, the highest first. -/
def wordL (a b c d : Int) : List Int := (List.range 32).map fun j => wbyte a b c d (31 - j)
def wordS (a b c d : Int) : ByteArray := strOfNums (wordL a b c d)
theorem wordL_at (a b c d : Int) {j : Nat} (h : j < 32) : (wordL a b c d).getD j 0 = wbyte a b c d (31 - j) := by simp [wordL, h]

set_option maxRecDepth 100000 in
theorem bytes_any (a b c d : Int) (w : World) : Calls Tryz.prog 130 #[.agg #[.int .u64 a, .int .u64 b, .int .u64 c, .int .u64 d]] w (RetV (.string (wordS a b c d)) w) := by
  go_enter Tryz.func130, Tryz.ntmps130
  go_wp2_with fail
  refine (cut_any a b c d _).mono ?_
  rintro e w1 ⟨rfl, hb1⟩
  have HS1 : Hid (St empH w none_ empH w1 [blk (w.heap.size + 1) (.cells (wbCells a b c d 0) 278)]) :=
    (((((St.start (ag_emp w)).alloc _).alloc' (.cells (wbCells a b c d 0) 278) (w.heap.size + 1) (by simp)).drop 1).grow hb1)
  clear hb1
  go_wp2_with fail
  have HS2 := Lib.hid (HS1.out.alloc (.cells #[.int .u64 d, .int .u64 c, .int .u64 b, .int .u64 a] 196))
  clear HS1
  go_loopw [8] (fun i wr => ∃ k : Nat, i = .int .i64 k ∧ k ≤ 32 ∧ Hid (St empH w none_ empH wr [blk (w.heap.size + 1) (.cells (wbCells a b c d k) 278), blk w1.heap.size (.cells #[.int .u64 d, .int .u64 c, .int .u64 b, .int .u64 a] 196)])) (fun i _ => 32 - (intOf i).toNat)
  case atStart => exact ⟨0, rfl, by omega, HS2.out.pick 1 rfl⟩
  case round =>
    clear HS2
    obtain ⟨k, rfl, hk, HS⟩ := hrel
    by_cases hlt : k < 32
    · have hq : (k : Int).tdiv 8 = ((k / 8 : Nat) : Int) := by rw [Int.tdiv_eq_ediv_of_nonneg (by omega)]; omega
      have hq4 : k / 8 < 4 := by omega
      have hc1 : wr.cell? ⟨w1.heap.size, k / 8, none⟩ = some (.int .u64 (lim a b c d (k / 8))) := by
        refine HS.out.cell 1 rfl ?_
        rcases (by omega : k / 8 = 0 ∨ k / 8 = 1 ∨ k / 8 = 2 ∨ k / 8 = 3) with e | e | e | e <;> rw [e] <;> rfl
      have hc2 : wr.cell? ⟨w.heap.size + 1, 31 - k, none⟩ = some _ := HS.out.cell 0 rfl (wbCells_at a b c d k (by omega))
      have hf2 : wr.frozen? ⟨w.heap.size + 1, 31 - k, none⟩ = false := HS.out.frozen 0 rfl _
      go_wp2_with fail
      go_roundw
      case rel =>
        have S := HS.out.setCell (j := 31 - k) 0 rfl (.int .u8 (wbyte a b c d k))
        rw [wbCells_set a b c d hlt] at S
        exact ⟨k + 1, by go_num, by omega, S⟩
      case measure => simp [intOf]; omega
    · obtain rfl : k = 32 := by omega
      have hconv := run_convert_bytes_arg wr 144 5 Tryz.underlying144 Tryz.underlying5 (w.heap.size + 1) 0 32 32 (wordL a b c d) rfl (fun i hi => by
        rw [Nat.zero_add, wordL_at _ _ _ _ hi, HS.out.cell 0 rfl (wbCells_at a b c d 32 hi), if_pos (by omega)]) 9 Tryz.underlying9
      go_wp2_with fail
      go_ret
      exact ⟨rfl, HS.out.below⟩
end Go.Proofs.YtdnpobjokajigaaGreatDoor

namespace Go.Proofs.YtdnpobjokajigaaGreatDoor
open Go.RowKit Go.Proofs K

/-- Byte k of a text, the last one first; the parts of the number that the last k bytes are. -/
def lowB (s : ByteArray) (k : Nat) : Int := ((s.data.toList.getD (s.size - 1 - k) 0).toNat : Int)
def ofL (s : ByteArray) : Nat → Nat → Int
  | 0, _ => 0
  | k + 1, i => if k / 8 = i then bits BinOp.or IntKind.u64 (ofL s k i) (IntKind.u64.wrap (IntKind.u64.wrap (lowB s k) * 2 ^ (k % 8 * 8))) else ofL s k i
def ofCells (s : ByteArray) (k : Nat) : Array Value := #[.int .u64 (ofL s k 0), .int .u64 (ofL s k 1), .int .u64 (ofL s k 2), .int .u64 (ofL s k 3)]
theorem ofCells_at (s : ByteArray) (k : Nat) {i : Nat} (h : i < 4) : (ofCells s k)[i]? = some (.int .u64 (ofL s k i)) := by
  rcases (by omega : i = 0 ∨ i = 1 ∨ i = 2 ∨ i = 3) with e | e | e | e <;> rw [e] <;> rfl
theorem ofCells_set (s : ByteArray) {k : Nat} (h : k < 32) : (ofCells s k).setIfInBounds (k / 8) (.int .u64 (bits BinOp.or IntKind.u64 (ofL s k (k / 8)) (IntKind.u64.wrap (IntKind.u64.wrap (lowB s k) * 2 ^ (k % 8 * 8))))) = ofCells s (k + 1) := by
  rcases (by omega : k / 8 = 0 ∨ k / 8 = 1 ∨ k / 8 = 2 ∨ k / 8 = 3) with e | e | e | e <;> simp [ofCells, ofL, e]
theorem szWord : (Tryz.prog.info? 24).map (·.size) = some 4 := by kernel_rfl
theorem oneW (a b c d : Int) : (#[.int .u64 a, .int .u64 b, .int .u64 c, .int .u64 d] : Array Value).all (·.oneCell') = true := by simp [Value.oneCell']
def word0 : Value := .agg #[.int .u64 0, .int .u64 0, .int .u64 0, .int .u64 0]
theorem of_no (s : ByteArray) (hs : 32 < s.size) (w : World) : Calls Tryz.prog 170 #[.string s] w (RetV (.tuple #[word0, .bool false]) w) := by
  go_enter Tryz.func170, Tryz.ntmps170
  go_wp2
  exact bodyPost_ret (v := .tuple #[word0, .bool false]) (by simp [results, word0, Tryz.results170, go_sem]) rfl ⟨rfl, (Below.refl _ _).alloc (Nat.le_refl _) _⟩
set_option maxRecDepth 100000 in
theorem of_any (s : ByteArray) (hs : s.size ≤ 32) (w : World) : Calls Tryz.prog 170 #[.string s] w (RetV (.tuple #[.agg #[.int .u64 (ofL s s.size 3), .int .u64 (ofL s s.size 2), .int .u64 (ofL s s.size 1), .int .u64 (ofL s s.size 0)], .bool true]) w) := by
  go_enter Tryz.func170, Tryz.ntmps170
  go_wp2_with fail
  have HS2 := Lib.hid (((St.start (ag_emp w)).alloc (.cells #[.int .u64 0, .int .u64 0, .int .u64 0, .int .u64 0] 24)).alloc' (.cells (ofCells s 0) 196) (w.heap.size + 1) (by simp))
  go_loopw [12] (fun i wr => ∃ k : Nat, i = .int .i64 k ∧ k ≤ s.size ∧ Hid (St empH w none_ empH wr [blk (w.heap.size + 1) (.cells (ofCells s k) 196), blk w.heap.size (.cells #[.int .u64 0, .int .u64 0, .int .u64 0, .int .u64 0] 24)])) (fun i _ => 32 - (intOf i).toNat)
  case atStart => exact ⟨0, rfl, by omega, HS2⟩
  case round =>
    clear HS2
    obtain ⟨k, rfl, hk, HS⟩ := hrel
    by_cases hlt : k < s.size
    · have hq : (k : Int).tdiv 8 = ((k / 8 : Nat) : Int) := by rw [Int.tdiv_eq_ediv_of_nonneg (by omega)]; omega
      have hq4 : k / 8 < 4 := by omega
      have hc1 : wr.cell? ⟨w.heap.size + 1, k / 8, none⟩ = some (.int .u64 (ofL s k (k / 8))) := HS.out.cell 0 rfl (ofCells_at s k hq4)
      have hf1 : wr.frozen? ⟨w.heap.size + 1, k / 8, none⟩ = false := HS.out.frozen 0 rfl _
      have hi2 : (s.size : Int) - 1 - k = ((s.size - 1 - k : Nat) : Int) := by omega
      have hi3 : s.size - 1 - k < s.size := by omega
      have HB := Lib.hid (show ((s[s.size - 1 - k].toNat : Nat) : Int) = lowB s k by simp only [lowB, List.getD]; rw [List.getElem?_eq_getElem (show s.size - 1 - k < s.data.toList.length by simpa using hi3)]; rfl)
      go_wp2_with fail
      go_region
      go_wp2_with fail
      go_roundw
      case rel =>
        have S := (HS.out.setCell (j := k / 8) 0 rfl (.int .u64 (bits BinOp.or IntKind.u64 (ofL s k (k / 8)) (IntKind.u64.wrap (IntKind.u64.wrap (lowB s k) * 2 ^ (k % 8 * 8)))))).drew
        rw [ofCells_set s (by omega)] at S
        rw [HB.out]
        exact ⟨k + 1, by go_num, by omega, S⟩
      case measure => simp [intOf]; omega
    · obtain rfl : k = s.size := by omega
      have h0 : wr.cell? ⟨w.heap.size + 1, 0, none⟩ = some (.int .u64 (ofL s s.size 0)) := HS.out.cell 0 rfl rfl
      have h1 : wr.cell? ⟨w.heap.size + 1, 1, none⟩ = some (.int .u64 (ofL s s.size 1)) := HS.out.cell 0 rfl rfl
      have h2 : wr.cell? ⟨w.heap.size + 1, 2, none⟩ = some (.int .u64 (ofL s s.size 2)) := HS.out.cell 0 rfl rfl
      have h3 : wr.cell? ⟨w.heap.size + 1, 3, none⟩ = some (.int .u64 (ofL s s.size 3)) := HS.out.cell 0 rfl rfl
      go_wp2_with fail
      refine (join_any _ _ _ _ _).mono ?_
      rintro e w2 ⟨rfl, hb2⟩
      have HS3 := Lib.hid (HS.out.grow hb2)
      clear h0 h1 h2 h3 hb2 HS
      go_wp2_with (first
        | (refine wpList_store_st (cs := #[.int .u64 (ofL s s.size 3), .int .u64 (ofL s s.size 2), .int .u64 (ofL s s.size 1), .int .u64 (ofL s s.size 0)]) 1 HS3.out rfl rfl 24 (.tmp 2) (.tmp 35) rfl rfl rfl szWord rfl (oneW _ _ _ _) ?_)
        | fail)
      intro w4 S4
      go_wp2_with fail
      exact post_cell2 0 S4 rfl Tryz.results170 rfl _ Tryz.underlying24 rfl szWord rfl ⟨rfl, S4.below⟩
end Go.Proofs.YtdnpobjokajigaaGreatDoor

namespace Go.Proofs.YtdnpobjokajigaaGreatDoor
open Go.RowKit Go.Proofs K

def nbyte (n : Int) (i : Nat) : Int := n / 2 ^ (8 * i) % 256
def nbCells (n : Int) (k : Nat) : Array Value := ((List.range 8).map fun j => Value.int .u8 (if 7 - j < k then nbyte n (7 - j) else 0)).toArray
theorem nbCells_at (n : Int) (k : Nat) {j : Nat} (h : j < 8) : (nbCells n k)[j]? = some (.int .u8 (if 7 - j < k then nbyte n (7 - j) else 0)) := by
  simp [nbCells, h]
theorem nbCells_set (n : Int) {k : Nat} (h : k < 8) : (nbCells n k).setIfInBounds (7 - k) (.int .u8 (nbyte n k)) = nbCells n (k + 1) := by
  apply Array.ext_getElem?
  intro j
  rw [Array.getElem?_setIfInBounds]
  by_cases hj : j < 8
  · rw [nbCells_at _ _ hj, nbCells_at _ _ hj]
    by_cases e : 7 - k = j
    · rw [if_pos e, if_pos (by simp [nbCells]; omega), if_pos (by omega), show 7 - j = k by omega]
    · rw [if_neg e]
      by_cases h2 : 7 - j < k
      · rw [if_pos h2, if_pos (by omega)]
      · rw [if_neg h2, if_neg (by omega)]
  · have e1 : ∀ k, (nbCells n k)[j]? = none := fun k => Array.getElem?_eq_none (by simp [nbCells]; omega)
    rw [e1, e1, if_neg (by omega)]
/-- A number's eight bytes, the highest first; those of them that count. -/
def nbL (n : Int) : List Int := (List.range 8).map fun j => nbyte n (7 - j)
def nbS (n : Int) : ByteArray := strOfNums (nbL n)
theorem nbL_at (n : Int) {j : Nat} (h : j < 8) : (nbL n).getD j 0 = nbyte n (7 - j) := by simp [nbL, h]
def numL (n : Int) : List UInt8 := Lib.trimLeftB (nbS n).data.toList 0
def numS (n : Int) : ByteArray := ⟨(numL n).toArray⟩

set_option maxRecDepth 100000 in
theorem number_any (n : Int) (w : World) : Calls Tryz.prog 129 #[.int .u64 n] w (RetV (.string (numS n)) w) := by
  go_enter Tryz.func129, Tryz.ntmps129
  go_wp2_with fail
  have HS2 := Lib.hid ((St.start (ag_emp w)).alloc (.cells (nbCells n 0) 276))
  go_loopw [5] (fun i wr => ∃ k : Nat, i = .int .i64 k ∧ k ≤ 8 ∧ Hid (St empH w none_ empH wr [blk w.heap.size (.cells (nbCells n k) 276)])) (fun i _ => 8 - (intOf i).toNat)
  case atStart => exact ⟨0, rfl, by omega, HS2⟩
  case round =>
    clear HS2
    obtain ⟨k, rfl, hk, HS⟩ := hrel
    by_cases hlt : k < 8
    · have hc2 : wr.cell? ⟨w.heap.size, 7 - k, none⟩ = some _ := HS.out.cell 0 rfl (nbCells_at n k (by omega))
      have hf2 : wr.frozen? ⟨w.heap.size, 7 - k, none⟩ = false := HS.out.frozen 0 rfl _
      go_wp2_with fail
      go_roundw
      case rel =>
        have S := HS.out.setCell (j := 7 - k) 0 rfl (.int .u8 (nbyte n k))
        rw [nbCells_set n hlt] at S
        exact ⟨k + 1, by go_num, by omega, S⟩
      case measure => simp [intOf]; omega
    · obtain rfl : k = 8 := by omega
      have hconv := run_convert_bytes_arg wr 144 5 Tryz.underlying144 Tryz.underlying5 w.heap.size 0 8 8 (nbL n) rfl (fun i hi => by
        rw [Nat.zero_add, nbL_at _ hi, HS.out.cell 0 rfl (nbCells_at n 8 hi), if_pos (by omega)]) 9 Tryz.underlying9
      go_wp2_with (go_at_call 171; refine (Tryz.strings_TrimLeft_one (nbS n) 0 (by decide) _).mono ?_; rintro e w2 ⟨rfl, rfl⟩)
      go_ret
      exact ⟨rfl, HS.out.below⟩

/-- An item that is a text. -/
def textV (s : ByteArray) : Value := .agg #[.bool false, .string s, .slice none 0 0]
theorem text_any (s : ByteArray) (w : World) : Calls Tryz.prog 66 #[.string s] w (RetV (.agg #[.bool false, .string s, .slice none 0 0]) w) := by
  go_enter Tryz.func66, Tryz.ntmps66
  go_wp2
  exact bodyPost_ret (v := .agg #[.bool false, .string s, .slice none 0 0]) (by simp [results, Tryz.results66, go_sem]) rfl ⟨rfl, (Below.refl _ _).alloc (Nat.le_refl _) _⟩
end Go.Proofs.YtdnpobjokajigaaGreatDoor
