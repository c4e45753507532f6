/-
  Arguments: what a call is given, read as data of a shape.
-/
import Derived.Test.YtfphlkkhpccpnabDoorK
import Derived.WalkKit
import Derived.ProofKit
import Derived.OpenShut
import Derived.ChangeArms
import Derived.Carry
import Derived.Handed
import GoSem.ClaimJoined
namespace Go.Proofs.YtfphlkkhpccpnabDoor.K
open Go.RowKit Go.ChangeShapes Go.WideShapes

/-- What a cell may hold: a bool, a number, a text, a slice (how many bytes an element has, what its cells may hold). -/
inductive Sh where
  | bool
  | int (k : IntKind)
  | str
  | sl (bytes : Nat) (e : List Sh)

mutual
inductive FitV : D → Sh → Prop
  | bool (b : Bool) : FitV (.v (.bool b)) .bool
  | int {k : IntKind} {n : Int} (h : (Lit.int k n).wf = true) : FitV (.v (.int k n)) (.int k)
  | str {s : ByteArray} (h : s.size ≤ reachBytes) : FitV (.v (.string s)) .str
  | sl {bytes n : Nat} {ds : List D} {e : List Sh} (hb : n * bytes ≤ reachBytes) (h : FitN ds n e) : FitV (.sl e.length n ds) (.sl bytes e)
inductive FitL : List D → List Sh → Prop
  | nil : FitL [] []
  | cons {d : D} {s : Sh} {ds : List D} {ss : List Sh} (h : FitV d s) (t : FitL ds ss) : FitL (d :: ds) (s :: ss)
inductive FitN : List D → Nat → List Sh → Prop
  | nil {e : List Sh} : FitN [] 0 e
  | cons {a b : List D} {n : Nat} {e : List Sh} (h : FitL a e) (t : FitN b n e) : FitN (a ++ b) (n + 1) e
end
theorem FitL.len : ∀ {ds : List D} {ss : List Sh}, FitL ds ss → ds.length = ss.length
  | _, _, .nil => rfl
  | _, _, .cons _ t => by simp [FitL.len t]
theorem FitL.append : ∀ {ds : List D} {ss : List Sh} {ds' : List D} {ss' : List Sh}, FitL ds ss → FitL ds' ss' → FitL (ds ++ ds') (ss ++ ss')
  | _, _, _, _, .nil, h => h
  | _, _, _, _, .cons h t, h' => .cons h (FitL.append t h')
theorem FitN.len : ∀ {ds : List D} {n : Nat} {e : List Sh}, FitN ds n e → ds.length = n * e.length
  | _, _, _, .nil => by simp
  | _, _, _, .cons h t => by rw [List.length_append, h.len, FitN.len t, Nat.succ_mul]; omega

/-- The fields, one behind the other. -/
def shapesFs (g : TypeId → Option (List Sh)) (P : Program) : List Field → Nat → Option (List Sh)
  | [], _ => some []
  | f :: r, o => if f.offset = o then (g f.type).bind fun l => if l.length = P.cellsOf f.type then (shapesFs g P r (o + l.length)).map (l ++ ·) else none else none
/-- The cells of a type, as shapes. -/
def shapes (P : Program) : Nat → TypeId → Option (List Sh)
  | 0, _ => none
  | k + 1, t => match P.underlying t with
    | some .bool => some [.bool]
    | some (.int q) => some [.int q]
    | some .string => some [.str]
    | some (.slice e) => (shapes P k e).bind fun l => if 0 < l.length ∧ l.length = P.cellsOf e then some [.sl (P.bytesOf e) l] else none
    | some (.struct fs) => (shapesFs (shapes P k) P fs.toList 0).bind fun l => if l.length = P.cellsOf t then some l else none
    | _ => none

section
variable {H : Type} {enc : TypeId × Value → H} {P : Program} {w : World} {base : Nat} {held : Bool}

/-- What a shape's reading gives. -/
def Reads (enc : TypeId × Value → H) (P : Program) (w : World) (base : Nat) (held : Bool) (g : TypeId → Option (List Sh)) : Prop :=
  ∀ (t : TypeId) (sh : List Sh), g t = some sh → ∀ (fuel : Nat) (cs : List Value) (x : DataW H × List MemPlace), DataW.trod enc P w base (fun _ => true) held fuel t cs = some x → (x.1.weights P t).all (· ≤ reachBytes) = true →
    ∃ ds, RepL (allOf w) cs ds ∧ FitL ds sh

theorem read_fields {g : TypeId → Option (List Sh)} (hg : Reads enc P w base held g) {n : Nat} : ∀ (fs : List Field) (xs : List (DataW H × List MemPlace)) (o : Nat) (l : List Sh) (cs : List Value), shapesFs g P fs o = some l → xs.length = fs.length → o + l.length = cs.length →
    (∀ (i : Nat) (f : Field), fs[i]? = some f → DataW.trod enc P w base (fun _ => true) held n f.type ((cs.drop f.offset).take (P.cellsOf f.type)) = xs[i]?) → (DataW.weightsEach P (fs.map (·.type)) (xs.map (·.1))).all (· ≤ reachBytes) = true →
    ∃ ds, RepL (allOf w) (cs.drop o) ds ∧ FitL ds l
  | [], _, o, l, cs, hs, _, hl, _, _ => by
    cases hs
    refine ⟨[], ?_, .nil⟩
    rw [List.drop_of_length_le (by simpa using Nat.le_of_eq hl.symm)]
    exact .nil
  | f :: r, [], _, _, _, _, hx, _, _, _ => by simp at hx
  | f :: r, x :: xs, o, l, cs, hs, hx, hl, hr, hw => by
    unfold shapesFs at hs
    split at hs
    · rename_i ho
      obtain ⟨l1, h1, h2⟩ := Option.bind_eq_some_iff.1 hs
      split at h2
      · rename_i hlen
        obtain ⟨l2, h3, rfl⟩ := Option.map_eq_some_iff.1 h2
        have h0 := hr 0 f rfl
        rw [ho, ← hlen] at h0
        simp only [List.map_cons, DataW.weightsEach, List.all_append, Bool.and_eq_true] at hw
        obtain ⟨d1, r1, f1⟩ := hg f.type l1 h1 n _ x h0 hw.1
        obtain ⟨d2, r2, f2⟩ := read_fields hg r xs (o + l1.length) l2 cs h3 (by simpa using hx) (by rw [List.length_append] at hl; omega) (fun i f' hi => hr (i + 1) f' (by simpa using hi)) hw.2
        refine ⟨d1 ++ d2, ?_, f1.append f2⟩
        have := r1.append r2
        rwa [← List.drop_drop, List.take_append_drop] at this
      · cases h2
    · cases hs

theorem cell_row {b j : Nat} {v : Value} (h : w.cell? ⟨b, j, none⟩ = some v) : ∃ cs t fr, w.heap[b]? = some (.cells cs t fr) ∧ cs[j]? = some v := by
  unfold World.cell? at h
  split at h
  · rename_i cs t fr hh
    simp at h
    exact ⟨_, _, _, hh, h⟩
  · cases h

theorem addr_add_add (a : Addr) (i j : Nat) : (a.add i).add j = a.add (i + j) := by
  unfold Addr.add
  by_cases hi : i = 0 <;> by_cases hj : j = 0 <;> simp [hi, hj, Nat.add_assoc]
/-- The elements of a slice, one behind the other. -/
theorem read_elems {g : TypeId → Option (List Sh)} (hg : Reads enc P w base held g) {e : TypeId} {l : List Sh} (he : g e = some l) (hl : l.length = P.cellsOf e) {n : Nat} : ∀ (elems : List (DataW H × List MemPlace)) (a : Addr),
    (∀ i, i < elems.length → (w.cells? base (a.add (i * P.cellsOf e)) (P.cellsOf e)).bind (DataW.trod enc P w base (fun _ => true) held n e) = elems[i]?) → (DataW.weightsAll P e (elems.map (·.1))).all (· ≤ reachBytes) = true →
    ∃ cs ds, RepL (allOf w) cs ds ∧ FitN ds elems.length l ∧ ∀ j u, cs[j]? = some u → w.cell? (a.add j) = some u
  | [], _, _, _ => ⟨[], [], .nil, .nil, fun j u h => by simp at h⟩
  | x :: r, a, h, hw => by
    simp only [List.map_cons, DataW.weightsAll, List.all_append, Bool.and_eq_true] at hw
    have h0 := h 0 (by simp)
    rw [Nat.zero_mul, List.getElem?_cons_zero] at h0
    obtain ⟨c1, hc1, hx1⟩ := Option.bind_eq_some_iff.1 h0
    obtain ⟨_, hlen, hcell⟩ := World.cells?_some hc1
    obtain ⟨d1, r1, f1⟩ := hg e l he n _ x hx1 hw.1
    have hadd : ∀ i, (a.add (P.cellsOf e)).add (i * P.cellsOf e) = a.add ((i + 1) * P.cellsOf e) := fun i => by
      rw [addr_add_add, Nat.succ_mul, Nat.add_comm]
    obtain ⟨c2, d2, r2, f2, hc2⟩ := read_elems hg he hl r (a.add (P.cellsOf e)) (fun i hi => by
      have := h (i + 1) (by simpa using hi)
      rw [List.getElem?_cons_succ] at this
      rw [hadd]
      exact this) hw.2
    refine ⟨c1 ++ c2, d1 ++ d2, r1.append r2, .cons f1 f2, fun j u hu => ?_⟩
    by_cases hj : j < c1.length
    · rw [List.getElem?_append_left hj] at hu
      have := hcell j (by omega)
      rw [addr_add_add, Nat.zero_add] at this
      rw [this, hu]
    · rw [List.getElem?_append_right (by omega)] at hu
      have := hc2 _ _ hu
      rwa [addr_add_add, show P.cellsOf e + (j - c1.length) = j by omega] at this

theorem row_of_cells {cs : List Value} {a : Addr} (h : ∀ j u, cs[j]? = some u → w.cell? (a.add j) = some u) : Row (allOf w) (some a) cs := by
  by_cases hn : cs = []
  · exact .inl hn
  · obtain ⟨v, r, rfl⟩ := List.exists_cons_of_ne_nil hn
    have h0 := h 0 v rfl
    obtain ⟨b, o, sp⟩ := a
    have hsp : sp = none := by simpa [Addr.add] using World.cell?_spot h0
    subst hsp
    rw [Addr.add_lit] at h0
    obtain ⟨cur, t, fr, hb, _⟩ := cell_row h0
    refine .inr ⟨b, o, cur, t, fr, rfl, hb, fun j u hu => ?_⟩
    have := h j u hu
    rw [Addr.add_lit, cell_of_row w b _ _ _ _ hb] at this
    exact this

/-- An argument reads as data of its shape. -/
theorem reads_shapes (enc : TypeId × Value → H) (P : Program) (w : World) (base : Nat) (held : Bool) : ∀ k, Reads enc P w base held (shapes P k)
  | 0 => fun t sh h => by cases h
  | k + 1 => fun t sh h fuel cs x hx hw => by
    unfold shapes at h
    split at h
    · rename_i ht
      cases h
      obtain ⟨b, rfl, _⟩ := DataW.trod_bool ht hx
      exact ⟨_, .cons (.pl rfl) .nil, .cons (.bool b) .nil⟩
    · rename_i q ht
      cases h
      obtain ⟨n, rfl, _, hn⟩ := DataW.trod_int ht hx
      exact ⟨_, .cons (.pl rfl) .nil, .cons (.int hn) .nil⟩
    · rename_i ht
      cases h
      obtain ⟨s, rfl, rfl, _⟩ := DataW.trod_string ht hx
      exact ⟨_, .cons (.pl rfl) .nil, .cons (.str (by simpa [DataW.weights] using hw)) .nil⟩
    · rename_i e ht
      obtain ⟨l, h1, h2⟩ := Option.bind_eq_some_iff.1 h
      split at h2
      · rename_i hl
        cases h2
        rcases DataW.trod_slice ht hx with ⟨rfl, _⟩ | ⟨a, len, cap, elems, rest, n, _, rfl, rfl, _, hlc, _, hlen, hel, _, _⟩
        · exact ⟨[.sl l.length 0 []], .cons (.sl (Nat.le_refl _) (fun _ => rfl) (by simp) (.inl rfl) .nil) .nil, .cons (.sl (by simp) .nil) .nil⟩
        · simp only [DataW.weights, ht, List.all_cons, List.all_append, Bool.and_eq_true, decide_eq_true_eq, List.length_map] at hw
          obtain ⟨cs', ds, r1, f1, hc⟩ := read_elems (reads_shapes enc P w base held k) h1 hl.2 elems a (fun i hi => hel i (by omega)) hw.2.1
          rw [hlen] at f1
          refine ⟨[.sl l.length len ds], .cons (.sl hlc (fun e => by cases e) f1.len (row_of_cells hc) r1) .nil, .cons (.sl ?_ f1) .nil⟩
          refine Nat.le_trans (Nat.mul_le_mul_right _ ?_) hw.1
          omega
      · cases h2
    · rename_i fs ht
      obtain ⟨l, h1, h2⟩ := Option.bind_eq_some_iff.1 h
      split at h2
      · rename_i hl
        cases h2
        obtain ⟨xs, n, _, rfl, hcl, hxl, hf⟩ := DataW.trod_struct ht hx
        simp only [DataW.weights, ht] at hw
        have := read_fields (reads_shapes enc P w base held k) fs.toList xs 0 _ cs h1 (by simpa using hxl) (by omega) (fun i f hi => hf i f (by simpa using hi)) hw
        simpa using this
      · cases h2
    · cases h
end

section
variable {H : Type} {enc : TypeId × Value → H}
/-- The row's step, where what came in is bounded. -/
theorem handed_of_change {a : Assume} {C : Checked} {os : Os} {f : FuncId} {fn : Func} {s : ChangeSpec} {conds : List PathCond} {apart fresh handsOn again : Bool}
    (own : ownKnob C.prog.godebug = none) (started : os.Started) (noInit : C.prog.inits.idxOf? f = none) (hfn : C.prog.funcs[f]? = some fn)
    (witness : ∃ (w : World) (tape : Tape) (i : Input), w.os = os ∧ (w.forCall tape i).Shaped C.prog ∧ i.vars = [] ∧ Input.okWide C.prog (w.forCall tape i) .any w.heap.size f i ∧
      s.pre6 enc C.prog fn conds apart (w.forCall tape i).memory i.args ∧ a.holds C.prog (lone (Frame.enter C.prog f i.args .normal) [] (w.forCall tape i)))
    (contract : ∀ (W : World) (base : Nat) (args : Array Value) (ds gs : List (DataW H)) (before : List MemPlace),
      (∀ (j : Nat) t v, fn.params[j]? = some t → args[j]? = some v → Value.okWide C.prog W .any base t v) →
      DataW.Whole enc C.prog fn.params.toList s.vars apart W args.toList ds gs before →
      (DataW.weightsEach C.prog (fn.params.toList ++ s.plain.varTypes C.prog) (ds ++ gs)).all (· ≤ reachBytes) = true →
      Calls C.prog f args W fun e W' => ∃ v, e = .returned v ∧ s.post enc C.prog fn apart fresh handsOn again W args v W') :
    ReturnsInHanded a C os f .any (s.pre6 enc C.prog fn conds apart) (s.post enc C.prog fn apart fresh handsOn again) := by
  refine returnsInHanded_of_calls own started noInit witness ?_
  intro w tape i _ _ _ hok hpre hholds
  obtain ⟨_, _, _, fn', hfn', _, _, _, _, hval⟩ := hok
  have e : fn' = fn := Option.some.inj (hfn'.symm.trans hfn)
  subst e
  obtain ⟨⟨ds, gs, before, hw, hc⟩, hz⟩ := hpre
  have hw' := DataW.Whole.of_heap (w' := w.forCall tape i) (by rfl) hw
  refine (contract (w.forCall tape i) w.heap.size i.args ds gs before hval hw' (hz.weights hw)).mono fun e W' ⟨v, he, hp⟩ => ?_
  subst he
  exact ChangeSpec.post_blind hp
end
end Go.Proofs.YtfphlkkhpccpnabDoor.K
