/-
  Arguments: what a call is given, read as data of a shape.
  Arguments of the door's rows; a world in which the listed variables lie.
  Arguments of the door's rows: numbers' bounds; an account, an ask, a reply.
  ForkOnce returns true, whatever it is given.
-/
import Derived.Test.YtdnpobjokajigaaGreatDoorK
import Derived.WalkKit
import Derived.ProofKit
import Derived.OpenShut
import Derived.ChangeArms
import Derived.Carry
import Derived.Handed
import GoSem.ClaimJoined
import Derived.Test.YtdnpobjokajigaaGreatDoorRows
import Derived.Test.YtdnpobjokajigaaGreatDoorTie
import Derived.Test.YtdnpobjokajigaaGreatDoorPart1
import Derived.Lib.LaidIn
import Derived.Lib.LaidU8T
import Derived.Deep.DeepHandedRow
import Derived.Deep.DeepWitnessRowRef
import Derived.SizedLaws
import Derived.ShutString
import Derived.ChangeOld
import Derived.Below
import Derived.Test.YtdnpobjokajigaaGreatDoorOnW9
namespace Go.Proofs.YtdnpobjokajigaaGreatDoor.K
open Go.RowKit Go.ChangeShapes Go.WideShapes

/-- What a cell may hold: a bool, a number, a text, a slice (how many bytes an element has, what its cells may hold). -/
inductive Sh where
  | bool
  | int (k : IntKind)
  | str
  | sl (bytes : Nat) (e : List Sh)

mutual
inductive FitV : D → Sh → Prop
  | bool (b : Bool) : FitV (.v (.bool b)) .bool
  | int {k : IntKind} {n : Int} (h : (Lit.int k n).wf = true) : FitV (.v (.int k n)) (.int k)
  | str {s : ByteArray} (h : s.size ≤ reachBytes) : FitV (.v (.string s)) .str
  | sl {bytes n : Nat} {ds : List D} {e : List Sh} (hb : n * bytes ≤ reachBytes) (h : FitN ds n e) : FitV (.sl e.length n ds) (.sl bytes e)
inductive FitL : List D → List Sh → Prop
  | nil : FitL [] []
  | cons {d : D} {s : Sh} {ds : List D} {ss : List Sh} (h : FitV d s) (t : FitL ds ss) : FitL (d :: ds) (s :: ss)
inductive FitN : List D → Nat → List Sh → Prop
  | nil {e : List Sh} : FitN [] 0 e
  | cons {a b : List D} {n : Nat} {e : List Sh} (h : FitL a e) (t : FitN b n e) : FitN (a ++ b) (n + 1) e
end
theorem FitL.len : ∀ {ds : List D} {ss : List Sh}, FitL ds ss → ds.length = ss.length
  | _, _, .nil => rfl
  | _, _, .cons _ t => by simp [FitL.len t]
theorem FitL.append : ∀ {ds : List D} {ss : List Sh} {ds' : List D} {ss' : List Sh}, FitL ds ss → FitL ds' ss' → FitL (ds ++ ds') (ss ++ ss')
  | _, _, _, _, .nil, h => h
  | _, _, _, _, .cons h t, h' => .cons h (FitL.append t h')
theorem FitN.len : ∀ {ds : List D} {n : Nat} {e : List Sh}, FitN ds n e → ds.length = n * e.length
  | _, _, _, .nil => by simp
  | _, _, _, .cons h t => by rw [List.length_append, h.len, FitN.len t, Nat.succ_mul]; omega

/-- The fields, one behind the other. -/
def shapesFs (g : TypeId → Option (List Sh)) (P : Program) : List Field → Nat → Option (List Sh)
  | [], _ => some []
  | f :: r, o => if f.offset = o then (g f.type).bind fun l => if l.length = P.cellsOf f.type then (shapesFs g P r (o + l.length)).map (l ++ ·) else none else none
/-- The cells of a type, as shapes. -/
def shapes (P : Program) : Nat → TypeId → Option (List Sh)
  | 0, _ => none
  | k + 1, t => match P.underlying t with
    | some .bool => some [.bool]
    | some (.int q) => some [.int q]
    | some .string => some [.str]
    | some (.slice e) => (shapes P k e).bind fun l => if 0 < l.length ∧ l.length = P.cellsOf e then some [.sl (P.bytesOf e) l] else none
    | some (.struct fs) => (shapesFs (shapes P k) P fs.toList 0).bind fun l => if l.length = P.cellsOf t then some l else none
    | _ => none

section
variable {H : Type} {enc : TypeId × Value → H} {P : Program} {w : World} {base : Nat} {held : Bool}

/-- What a shape's reading gives. -/
def Reads (enc : TypeId × Value → H) (P : Program) (w : World) (base : Nat) (held : Bool) (g : TypeId → Option (List Sh)) : Prop :=
  ∀ (t : TypeId) (sh : List Sh), g t = some sh → ∀ (fuel : Nat) (cs : List Value) (x : DataW H × List MemPlace), DataW.trod enc P w base (fun _ => true) held fuel t cs = some x → (x.1.weights P t).all (· ≤ reachBytes) = true →
    ∃ ds, RepL (allOf w) cs ds ∧ FitL ds sh

theorem read_fields {g : TypeId → Option (List Sh)} (hg : Reads enc P w base held g) {n : Nat} : ∀ (fs : List Field) (xs : List (DataW H × List MemPlace)) (o : Nat) (l : List Sh) (cs : List Value), shapesFs g P fs o = some l → xs.length = fs.length → o + l.length = cs.length →
    (∀ (i : Nat) (f : Field), fs[i]? = some f → DataW.trod enc P w base (fun _ => true) held n f.type ((cs.drop f.offset).take (P.cellsOf f.type)) = xs[i]?) → (DataW.weightsEach P (fs.map (·.type)) (xs.map (·.1))).all (· ≤ reachBytes) = true →
    ∃ ds, RepL (allOf w) (cs.drop o) ds ∧ FitL ds l
  | [], _, o, l, cs, hs, _, hl, _, _ => by
    cases hs
    refine ⟨[], ?_, .nil⟩
    rw [List.drop_of_length_le (by simpa using Nat.le_of_eq hl.symm)]
    exact .nil
  | f :: r, [], _, _, _, _, hx, _, _, _ => by simp at hx
  | f :: r, x :: xs, o, l, cs, hs, hx, hl, hr, hw => by
    unfold shapesFs at hs
    split at hs
    · rename_i ho
      obtain ⟨l1, h1, h2⟩ := Option.bind_eq_some_iff.1 hs
      split at h2
      · rename_i hlen
        obtain ⟨l2, h3, rfl⟩ := Option.map_eq_some_iff.1 h2
        have h0 := hr 0 f rfl
        rw [ho, ← hlen] at h0
        simp only [List.map_cons, DataW.weightsEach, List.all_append, Bool.and_eq_true] at hw
        obtain ⟨d1, r1, f1⟩ := hg f.type l1 h1 n _ x h0 hw.1
        obtain ⟨d2, r2, f2⟩ := read_fields hg r xs (o + l1.length) l2 cs h3 (by simpa using hx) (by rw [List.length_append] at hl; omega) (fun i f' hi => hr (i + 1) f' (by simpa using hi)) hw.2
        refine ⟨d1 ++ d2, ?_, f1.append f2⟩
        have := r1.append r2
        rwa [← List.drop_drop, List.take_append_drop] at this
      · cases h2
    · cases hs

theorem cell_row {b j : Nat} {v : Value} (h : w.cell? ⟨b, j, none⟩ = some v) : ∃ cs t fr, w.heap[b]? = some (.cells cs t fr) ∧ cs[j]? = some v := by
  unfold World.cell? at h
  split at h
  · rename_i cs t fr hh
    simp at h
    exact ⟨_, _, _, hh, h⟩
  · cases h

theorem addr_add_add (a : Addr) (i j : Nat) : (a.add i).add j = a.add (i + j) := by
  unfold Addr.add
  by_cases hi : i = 0 <;> by_cases hj : j = 0 <;> simp [hi, hj, Nat.add_assoc]
/-- The elements of a slice, one behind the other. -/
theorem read_elems {g : TypeId → Option (List Sh)} (hg : Reads enc P w base held g) {e : TypeId} {l : List Sh} (he : g e = some l) (hl : l.length = P.cellsOf e) {n : Nat} : ∀ (elems : List (DataW H × List MemPlace)) (a : Addr),
    (∀ i, i < elems.length → (w.cells? base (a.add (i * P.cellsOf e)) (P.cellsOf e)).bind (DataW.trod enc P w base (fun _ => true) held n e) = elems[i]?) → (DataW.weightsAll P e (elems.map (·.1))).all (· ≤ reachBytes) = true →
    ∃ cs ds, RepL (allOf w) cs ds ∧ FitN ds elems.length l ∧ ∀ j u, cs[j]? = some u → w.cell? (a.add j) = some u
  | [], _, _, _ => ⟨[], [], .nil, .nil, fun j u h => by simp at h⟩
  | x :: r, a, h, hw => by
    simp only [List.map_cons, DataW.weightsAll, List.all_append, Bool.and_eq_true] at hw
    have h0 := h 0 (by simp)
    rw [Nat.zero_mul, List.getElem?_cons_zero] at h0
    obtain ⟨c1, hc1, hx1⟩ := Option.bind_eq_some_iff.1 h0
    obtain ⟨_, hlen, hcell⟩ := World.cells?_some hc1
    obtain ⟨d1, r1, f1⟩ := hg e l he n _ x hx1 hw.1
    have hadd : ∀ i, (a.add (P.cellsOf e)).add (i * P.cellsOf e) = a.add ((i + 1) * P.cellsOf e) := fun i => by
      rw [addr_add_add, Nat.succ_mul, Nat.add_comm]
    obtain ⟨c2, d2, r2, f2, hc2⟩ := read_elems hg he hl r (a.add (P.cellsOf e)) (fun i hi => by
      have := h (i + 1) (by simpa using hi)
      rw [List.getElem?_cons_succ] at this
      rw [hadd]
      exact this) hw.2
    refine ⟨c1 ++ c2, d1 ++ d2, r1.append r2, .cons f1 f2, fun j u hu => ?_⟩
    by_cases hj : j < c1.length
    · rw [List.getElem?_append_left hj] at hu
      have := hcell j (by omega)
      rw [addr_add_add, Nat.zero_add] at this
      rw [this, hu]
    · rw [List.getElem?_append_right (by omega)] at hu
      have := hc2 _ _ hu
      rwa [addr_add_add, show P.cellsOf e + (j - c1.length) = j by omega] at this

theorem row_of_cells {cs : List Value} {a : Addr} (h : ∀ j u, cs[j]? = some u → w.cell? (a.add j) = some u) : Row (allOf w) (some a) cs := by
  by_cases hn : cs = []
  · exact .inl hn
  · obtain ⟨v, r, rfl⟩ := List.exists_cons_of_ne_nil hn
    have h0 := h 0 v rfl
    obtain ⟨b, o, sp⟩ := a
    have hsp : sp = none := by simpa [Addr.add] using World.cell?_spot h0
    subst hsp
    rw [Addr.add_lit] at h0
    obtain ⟨cur, t, fr, hb, _⟩ := cell_row h0
    refine .inr ⟨b, o, cur, t, fr, rfl, hb, fun j u hu => ?_⟩
    have := h j u hu
    rw [Addr.add_lit, cell_of_row w b _ _ _ _ hb] at this
    exact this

/-- An argument reads as data of its shape. -/
theorem reads_shapes (enc : TypeId × Value → H) (P : Program) (w : World) (base : Nat) (held : Bool) : ∀ k, Reads enc P w base held (shapes P k)
  | 0 => fun t sh h => by cases h
  | k + 1 => fun t sh h fuel cs x hx hw => by
    unfold shapes at h
    split at h
    · rename_i ht
      cases h
      obtain ⟨b, rfl, _⟩ := DataW.trod_bool ht hx
      exact ⟨_, .cons (.pl rfl) .nil, .cons (.bool b) .nil⟩
    · rename_i q ht
      cases h
      obtain ⟨n, rfl, _, hn⟩ := DataW.trod_int ht hx
      exact ⟨_, .cons (.pl rfl) .nil, .cons (.int hn) .nil⟩
    · rename_i ht
      cases h
      obtain ⟨s, rfl, rfl, _⟩ := DataW.trod_string ht hx
      exact ⟨_, .cons (.pl rfl) .nil, .cons (.str (by simpa [DataW.weights] using hw)) .nil⟩
    · rename_i e ht
      obtain ⟨l, h1, h2⟩ := Option.bind_eq_some_iff.1 h
      split at h2
      · rename_i hl
        cases h2
        rcases DataW.trod_slice ht hx with ⟨rfl, _⟩ | ⟨a, len, cap, elems, rest, n, _, rfl, rfl, _, hlc, _, hlen, hel, _, _⟩
        · exact ⟨[.sl l.length 0 []], .cons (.sl (Nat.le_refl _) (fun _ => rfl) (by simp) (.inl rfl) .nil) .nil, .cons (.sl (by simp) .nil) .nil⟩
        · simp only [DataW.weights, ht, List.all_cons, List.all_append, Bool.and_eq_true, decide_eq_true_eq, List.length_map] at hw
          obtain ⟨cs', ds, r1, f1, hc⟩ := read_elems (reads_shapes enc P w base held k) h1 hl.2 elems a (fun i hi => hel i (by omega)) hw.2.1
          rw [hlen] at f1
          refine ⟨[.sl l.length len ds], .cons (.sl hlc (fun e => by cases e) f1.len (row_of_cells hc) r1) .nil, .cons (.sl ?_ f1) .nil⟩
          refine Nat.le_trans (Nat.mul_le_mul_right _ ?_) hw.1
          omega
      · cases h2
    · rename_i fs ht
      obtain ⟨l, h1, h2⟩ := Option.bind_eq_some_iff.1 h
      split at h2
      · rename_i hl
        cases h2
        obtain ⟨xs, n, _, rfl, hcl, hxl, hf⟩ := DataW.trod_struct ht hx
        simp only [DataW.weights, ht] at hw
        have := read_fields (reads_shapes enc P w base held k) fs.toList xs 0 _ cs h1 (by simpa using hxl) (by omega) (fun i f hi => hf i f (by simpa using hi)) hw
        simpa using this
      · cases h2
    · cases h
end

section
variable {H : Type} {enc : TypeId × Value → H}
/-- The row's step, where what came in is bounded. -/
theorem handed_of_change {a : Assume} {C : Checked} {os : Os} {f : FuncId} {fn : Func} {s : ChangeSpec} {conds : List PathCond} {apart fresh handsOn again : Bool}
    (own : ownKnob C.prog.godebug = none) (started : os.Started) (noInit : C.prog.inits.idxOf? f = none) (hfn : C.prog.funcs[f]? = some fn)
    (witness : ∃ (w : World) (tape : Tape) (i : Input), w.os = os ∧ (w.forCall tape i).Shaped C.prog ∧ i.vars = [] ∧ Input.okWide C.prog (w.forCall tape i) .any w.heap.size f i ∧
      s.pre6 enc C.prog fn conds apart (w.forCall tape i).memory i.args ∧ a.holds C.prog (lone (Frame.enter C.prog f i.args .normal) [] (w.forCall tape i)))
    (contract : ∀ (W : World) (base : Nat) (args : Array Value) (ds gs : List (DataW H)) (before : List MemPlace),
      (∀ (j : Nat) t v, fn.params[j]? = some t → args[j]? = some v → Value.okWide C.prog W .any base t v) →
      DataW.Whole enc C.prog fn.params.toList s.vars apart W args.toList ds gs before →
      (DataW.weightsEach C.prog (fn.params.toList ++ s.plain.varTypes C.prog) (ds ++ gs)).all (· ≤ reachBytes) = true →
      Calls C.prog f args W fun e W' => ∃ v, e = .returned v ∧ s.post enc C.prog fn apart fresh handsOn again W args v W') :
    ReturnsInHanded a C os f .any (s.pre6 enc C.prog fn conds apart) (s.post enc C.prog fn apart fresh handsOn again) := by
  refine returnsInHanded_of_calls own started noInit witness ?_
  intro w tape i _ _ _ hok hpre hholds
  obtain ⟨_, _, _, fn', hfn', _, _, _, _, hval⟩ := hok
  have e : fn' = fn := Option.some.inj (hfn'.symm.trans hfn)
  subst e
  obtain ⟨⟨ds, gs, before, hw, hc⟩, hz⟩ := hpre
  have hw' := DataW.Whole.of_heap (w' := w.forCall tape i) (by rfl) hw
  refine (contract (w.forCall tape i) w.heap.size i.args ds gs before hval hw' (hz.weights hw)).mono fun e W' ⟨v, he, hp⟩ => ?_
  subst he
  exact ChangeSpec.post_blind hp
end
end Go.Proofs.YtdnpobjokajigaaGreatDoor.K

namespace Go.Proofs.YtdnpobjokajigaaGreatDoor
open Go.ChangeShapes Go.WideShapes Go.ChangeAt Go.RowKit K
open Go.ChangeMaps (open_string shut_string)
set_option linter.unusedVariables false

theorem ownR : ownKnob Tryz.prog.godebug = none := by kernel_rfl
theorem laidOutR : laidOutB Tryz.prog = true := by kernel_rfl
/-- The settled world, the two variables holding what their initialisers lay. -/
noncomputable def laidWorld (os : Os) : World :=
  let w0 := World.holding Tryz.prog os ⟨#[], #[], []⟩
  let put (h : Array Obj) (g : Nat) (cs : Array Value) : Array Obj := h.modify g fun
    | .cells _ t frozen => .cells cs t frozen
    | o => o
  let h1 := put w0.heap 0 (Lib.firstTab.map fun z => Value.int .u8 z).toArray
  let h2 := put h1 1 ((List.range 16).flatMap fun i => [Value.int .u8 (Lib.accLo i), Value.int .u8 (Lib.accHi i)]).toArray
  { w0 with heap := h2 }
def laid2 : List (String × DataW Unit) := [("unicode/utf8.acceptRanges", Rows.laid_unicode_utf8_acceptRanges), ("unicode/utf8.first", Rows.laid_unicode_utf8_first)]
theorem laid_met (os : Os) (args : Array Value) : laidMet Tryz.prog laid2 ((laidWorld os).forCall (fun _ _ => 0) ⟨#[], args, []⟩).memory :=
  (LaidIn.of_run (l := laid2) [1, 0] 8 (by kernel_rfl) (by kernel_rfl) (by kernel_rfl) (by kernel_rfl)).met
theorem shapesWord : shapes Tryz.prog 4 24 = some [.int .u64, .int .u64, .int .u64, .int .u64] := by kernel_rfl
theorem cellsWord : Tryz.prog.cellsOf 24 = 4 := by kernel_rfl
set_option maxRecDepth 100000 in
theorem wf64 {a : Int} (h : (Lit.int .u64 a).wf = true) : W64 a := by
  simp [Lit.wf, IntKind.min, IntKind.max, IntKind.signed, IntKind.bits] at h
  unfold W64
  omega
set_option maxRecDepth 100000 in
/-- A word among what a call is given. -/
theorem word_arg {H : Type} {enc : TypeId × Value → H} {W : World} {base : Nat} {r : Reach} {v : Value} {d : DataW H} {p : List MemPlace} (hv : Value.okWide Tryz.prog W r base 24 v) (h : DataW.Trod enc Tryz.prog W 0 (fun _ => true) true 24 v d p)
    (hsz : (d.weights Tryz.prog 24).all (· ≤ reachBytes) = true) : ∃ a b c e, v = .agg #[.int .u64 a, .int .u64 b, .int .u64 c, .int .u64 e] ∧ W64 a ∧ W64 b ∧ W64 c ∧ W64 e := by
  obtain ⟨cs, rfl, hs⟩ := okWide_struct Tryz.underlying24 hv
  obtain ⟨m, hm⟩ := h
  obtain ⟨ds, hr, hf⟩ := reads_shapes enc Tryz.prog W 0 true 4 24 _ shapesWord m _ _ hm hsz
  have hlist : (Value.agg cs).cells.toList = cs.toList := rfl
  cases hf with
  | cons h1 t => cases t with
    | cons h2 t => cases t with
      | cons h3 t => cases t with
        | cons h4 t =>
          cases t
          cases h1 with
          | int w1 => cases h2 with
            | int w2 => cases h3 with
              | int w3 => cases h4 with
                | int w4 =>
                  refine ⟨_, _, _, _, ?_, wf64 w1, wf64 w2, wf64 w3, wf64 w4⟩
                  congr 1
                  apply Array.toList_inj.1
                  rw [hlist] at hr
                  generalize cs.toList = l at hr ⊢
                  cases hr with
                  | cons r1 t => cases t with
                    | cons r2 t => cases t with
                      | cons r3 t => cases t with
                        | cons r4 t =>
                          cases t
                          cases r1; cases r2; cases r3; cases r4
                          simp_all
end Go.Proofs.YtdnpobjokajigaaGreatDoor

namespace Go.Proofs.YtdnpobjokajigaaGreatDoor
open Go.ChangeShapes Go.WideShapes Go.ChangeAt Go.RowKit K
set_option linter.unusedVariables false
set_option maxRecDepth 100000

set_option maxRecDepth 100000 in
theorem wf32 {a : Int} (h : (Lit.int .u32 a).wf = true) : 0 ≤ a ∧ a < 4294967296 := by
  simp [Lit.wf, IntKind.min, IntKind.max, IntKind.signed, IntKind.bits] at h
  omega
theorem wfi64 {a : Int} (h : (Lit.int .i64 a).wf = true) : -9223372036854775808 ≤ a ∧ a < 9223372036854775808 := by
  simp [Lit.wf, IntKind.min, IntKind.max, IntKind.signed, IntKind.bits] at h
  omega
theorem wfu16 {a : Int} (h : (Lit.int .u16 a).wf = true) : 0 ≤ a ∧ a < 65536 := by
  simp [Lit.wf, IntKind.min, IntKind.max, IntKind.signed, IntKind.bits] at h
  omega
theorem wfu8 {a : Int} (h : (Lit.int .u8 a).wf = true) : 0 ≤ a ∧ a < 256 := by
  simp [Lit.wf, IntKind.min, IntKind.max, IntKind.signed, IntKind.bits] at h
  omega
/-- A struct among what a call is given: its cells are of its shape. -/
theorem agg_arg {H : Type} {enc : TypeId × Value → H} {W : World} {base : Nat} {r : Reach} {v : Value} {d : DataW H} {p : List MemPlace} {t : TypeId} {fs : Array Field} {sh : List Sh} (hu : Tryz.prog.underlying t = some (.struct fs)) (hsh : shapes Tryz.prog 5 t = some sh)
    (hv : Value.okWide Tryz.prog W r base t v) (h : DataW.Trod enc Tryz.prog W 0 (fun _ => true) true t v d p) (hsz : (d.weights Tryz.prog t).all (· ≤ reachBytes) = true) : ∃ cs ds, v = .agg cs ∧ RepL (allOf W) cs.toList ds ∧ FitL ds sh := by
  obtain ⟨cs, rfl, hs⟩ := okWide_struct hu hv
  obtain ⟨m, hm⟩ := h
  obtain ⟨ds, hr, hf⟩ := reads_shapes enc Tryz.prog W 0 true 5 t _ hsh m _ _ hm hsz
  exact ⟨cs, ds, rfl, hr, hf⟩
theorem fit_u64 {H : Hs} {cs : List Value} {ds : List D} {sh : List Sh} (hr : RepL H cs ds) (hf : FitL ds (.int .u64 :: sh)) : ∃ n cs' ds', cs = .int .u64 n :: cs' ∧ W64 n ∧ RepL H cs' ds' ∧ FitL ds' sh := by
  cases hf with
  | cons h1 t =>
    cases h1 with
    | int w1 =>
      obtain ⟨xs, rfl, ht⟩ := hr.pl_inv
      exact ⟨_, _, _, rfl, wf64 w1, ht, t⟩
theorem fit_i64 {H : Hs} {cs : List Value} {ds : List D} {sh : List Sh} (hr : RepL H cs ds) (hf : FitL ds (.int .i64 :: sh)) : ∃ n cs' ds', cs = .int .i64 n :: cs' ∧ (Lit.int .i64 n).wf = true ∧ RepL H cs' ds' ∧ FitL ds' sh := by
  cases hf with
  | cons h1 t =>
    cases h1 with
    | int w1 =>
      obtain ⟨xs, rfl, ht⟩ := hr.pl_inv
      exact ⟨_, _, _, rfl, w1, ht, t⟩
theorem fit_str {H : Hs} {cs : List Value} {ds : List D} {sh : List Sh} (hr : RepL H cs ds) (hf : FitL ds (.str :: sh)) : ∃ s cs' ds', cs = .string s :: cs' ∧ s.size ≤ reachBytes ∧ RepL H cs' ds' ∧ FitL ds' sh := by
  cases hf with
  | cons h1 t =>
    cases h1 with
    | str w1 =>
      obtain ⟨xs, rfl, ht⟩ := hr.pl_inv
      exact ⟨_, _, _, rfl, w1, ht, t⟩
theorem fit_end {H : Hs} {cs : List Value} {ds : List D} (hr : RepL H cs ds) (hf : FitL ds []) : cs = [] := by
  cases hf
  exact hr.nil_inv
theorem agg_list {cs : Array Value} {l : List Value} (h : cs.toList = l) : Value.agg cs = .agg l.toArray := by
  rw [← h]
theorem shAcc : shapes Tryz.prog 5 26 = some [.int .u64, .int .u64, .int .u64, .int .u64, .int .u64, .str] := by kernel_rfl
theorem shAsk : shapes Tryz.prog 5 45 = some [.int .u64, .str, .int .u64, .int .u64, .int .u64, .int .u64, .int .i64] := by kernel_rfl
theorem shReply : shapes Tryz.prog 5 37 = some [.int .u64, .int .u64, .int .u64, .int .u64, .int .u64, .int .u64, .str, .int .u64, .int .u64, .int .u64, .int .u64] := by kernel_rfl
section
variable {H : Type} {enc : TypeId × Value → H} {W : World} {base : Nat} {r : Reach} {v : Value} {d : DataW H} {p : List MemPlace}
theorem acc_arg (hv : Value.okWide Tryz.prog W r base 26 v) (h : DataW.Trod enc Tryz.prog W 0 (fun _ => true) true 26 v d p)
    (hsz : (d.weights Tryz.prog 26).all (· ≤ reachBytes) = true) : ∃ n a b c e s, v = .agg #[.int .u64 n, .int .u64 a, .int .u64 b, .int .u64 c, .int .u64 e, .string s] ∧ W64 n ∧ W64 a ∧ W64 b ∧ W64 c ∧ W64 e ∧ s.size ≤ reachBytes := by
  obtain ⟨cs, ds, rfl, hr, hf⟩ := agg_arg Tryz.underlying26 shAcc hv h hsz
  obtain ⟨n, c1, d1, e1, w1, hr, hf⟩ := fit_u64 hr hf
  obtain ⟨a, c2, d2, rfl, w2, hr, hf⟩ := fit_u64 hr hf
  obtain ⟨b, c3, d3, rfl, w3, hr, hf⟩ := fit_u64 hr hf
  obtain ⟨c, c4, d4, rfl, w4, hr, hf⟩ := fit_u64 hr hf
  obtain ⟨e, c5, d5, rfl, w5, hr, hf⟩ := fit_u64 hr hf
  obtain ⟨s, c6, d6, rfl, w6, hr, hf⟩ := fit_str hr hf
  obtain rfl := fit_end hr hf
  exact ⟨n, a, b, c, e, s, agg_list e1, w1, w2, w3, w4, w5, w6⟩
theorem ask_arg (hv : Value.okWide Tryz.prog W r base 45 v) (h : DataW.Trod enc Tryz.prog W 0 (fun _ => true) true 45 v d p)
    (hsz : (d.weights Tryz.prog 45).all (· ≤ reachBytes) = true) : ∃ id s a b c e k, v = .agg #[.int .u64 id, .string s, .int .u64 a, .int .u64 b, .int .u64 c, .int .u64 e, .int .i64 k] ∧ W64 id ∧ s.size ≤ reachBytes ∧ W64 a ∧ W64 b ∧ W64 c ∧ W64 e ∧ (Lit.int .i64 k).wf = true := by
  obtain ⟨cs, ds, rfl, hr, hf⟩ := agg_arg Tryz.underlying45 shAsk hv h hsz
  obtain ⟨n, c1, d1, e1, w1, hr, hf⟩ := fit_u64 hr hf
  obtain ⟨s, c6, d6, rfl, w6, hr, hf⟩ := fit_str hr hf
  obtain ⟨a, c2, d2, rfl, w2, hr, hf⟩ := fit_u64 hr hf
  obtain ⟨b, c3, d3, rfl, w3, hr, hf⟩ := fit_u64 hr hf
  obtain ⟨c, c4, d4, rfl, w4, hr, hf⟩ := fit_u64 hr hf
  obtain ⟨e, c5, d5, rfl, w5, hr, hf⟩ := fit_u64 hr hf
  obtain ⟨k, c7, d7, rfl, w7, hr, hf⟩ := fit_i64 hr hf
  obtain rfl := fit_end hr hf
  exact ⟨n, s, a, b, c, e, k, agg_list e1, w1, w6, w2, w3, w4, w5, w7⟩
theorem reply_arg (hv : Value.okWide Tryz.prog W r base 37 v) (h : DataW.Trod enc Tryz.prog W 0 (fun _ => true) true 37 v d p)
    (hsz : (d.weights Tryz.prog 37).all (· ≤ reachBytes) = true) : ∃ id n a b c e s f g i j, v = .agg #[.int .u64 id, .int .u64 n, .int .u64 a, .int .u64 b, .int .u64 c, .int .u64 e, .string s, .int .u64 f, .int .u64 g, .int .u64 i, .int .u64 j] ∧ W64 id ∧ W64 n ∧ W64 a ∧ W64 b ∧ W64 c ∧ W64 e ∧ s.size ≤ reachBytes ∧ W64 f ∧ W64 g ∧ W64 i ∧ W64 j := by
  obtain ⟨cs, ds, rfl, hr, hf⟩ := agg_arg Tryz.underlying37 shReply hv h hsz
  obtain ⟨id, c0, d0, e1, w0, hr, hf⟩ := fit_u64 hr hf
  obtain ⟨n, c1, d1, rfl, w1, hr, hf⟩ := fit_u64 hr hf
  obtain ⟨a, c2, d2, rfl, w2, hr, hf⟩ := fit_u64 hr hf
  obtain ⟨b, c3, d3, rfl, w3, hr, hf⟩ := fit_u64 hr hf
  obtain ⟨c, c4, d4, rfl, w4, hr, hf⟩ := fit_u64 hr hf
  obtain ⟨e, c5, d5, rfl, w5, hr, hf⟩ := fit_u64 hr hf
  obtain ⟨s, c6, d6, rfl, w6, hr, hf⟩ := fit_str hr hf
  obtain ⟨f, c7, d7, rfl, w7, hr, hf⟩ := fit_u64 hr hf
  obtain ⟨g, c8, d8, rfl, w8, hr, hf⟩ := fit_u64 hr hf
  obtain ⟨i, c9, d9, rfl, w9, hr, hf⟩ := fit_u64 hr hf
  obtain ⟨j, c10, d10, rfl, w10, hr, hf⟩ := fit_u64 hr hf
  obtain rfl := fit_end hr hf
  exact ⟨id, n, a, b, c, e, s, f, g, i, j, agg_list e1, w0, w1, w2, w3, w4, w5, w6, w7, w8, w9, w10⟩
end
end Go.Proofs.YtdnpobjokajigaaGreatDoor

namespace Go.Proofs.YtdnpobjokajigaaGreatDoor
open Go.ChangeShapes Go.WideShapes Go.ChangeAt Go.RowKit K
open Go.ChangeMaps (open_string shut_string)
set_option linter.unusedVariables false

noncomputable def zerosOnce : Array Value := #[.agg #[.int .u64 0, .int .u64 0, .int .u64 0, .int .u64 0, .int .u64 0, .string ⟨#[]⟩], .agg #[.int .u64 0, .int .u64 0, .int .u64 0, .int .u64 0], .agg #[.int .u64 0, .int .u64 0, .int .u64 0, .int .u64 0], .int .u8 0]
theorem witnessOnce (os : Os) {H : Type} (enc : TypeId × Value → H) :
    (OpenSpec.ofChange Rows.forkOnceSpec).preRow enc Tryz.prog Tryz.f5 Rows.forkOnceRow.domain false Rows.forkOnceRow.laid ((laidWorld os).forCall (fun _ _ => 0) ⟨#[], zerosOnce, []⟩).memory zerosOnce := by
  have hw : (DataW.whole enc Tryz.prog ((laidWorld os).forCall (fun _ _ => 0) ⟨#[], zerosOnce, []⟩).memory Tryz.f5.params.toList (OpenSpec.ofChange Rows.forkOnceSpec).vars false zerosOnce.toList 8).map (fun x => (x.1, x.2.1)) =
      some ([.agg [.lit (.int .u64 0), .agg [.lit (.int .u64 0), .lit (.int .u64 0), .lit (.int .u64 0), .lit (.int .u64 0)], .lit (.string [])], .agg [.lit (.int .u64 0), .lit (.int .u64 0), .lit (.int .u64 0), .lit (.int .u64 0)], .agg [.lit (.int .u64 0), .lit (.int .u64 0), .lit (.int .u64 0), .lit (.int .u64 0)], .lit (.int .u8 0)], []) := by kernel_rfl
  obtain ⟨⟨x1, x2, x3⟩, hx, hx1⟩ := Option.map_eq_some_iff.1 hw
  simp only [Prod.mk.injEq] at hx1
  obtain ⟨rfl, rfl⟩ := hx1
  exact OpenSpec.preRow_of_cond 8 hx (by kernel_rfl) (fun k hk => by cases hk) (by kernel_rfl) (laid_met os _)

set_option maxRecDepth 100000 in
set_option maxHeartbeats 2000000 in
theorem liftedOnce (os : Os) (started : os.Started) (H : Type) (enc : TypeId × Value → H) (F : Stop.Interp) :
    ReturnsInHanded {} Tryz.checked os 5 .any ((OpenSpec.ofChange Rows.forkOnceSpec).preRow enc Tryz.prog Tryz.f5 Rows.forkOnceRow.domain false Rows.forkOnceRow.laid) (((OpenSpec.ofChange Rows.forkOnceSpec).at F).post enc Tryz.prog Tryz.f5 false true false false) := by
  refine returnsInHanded_of_row (C := Tryz.checked) (s := OpenSpec.ofChange Rows.forkOnceSpec) ownR started (by kernel_rfl) Tryz.func5
    (witness_row_atRef (enc := enc) (C := Tryz.checked) false (laidWorld os) zerosOnce rfl (by kernel_rfl) (by kernel_rfl) (by kernel_rfl) (witnessOnce os enc)) ?_
  intro W base args ds gs before hval0 hW hcnd0 h1 h2 hL h3 hsz
  have hval : ∀ (j : Nat) t v, Tryz.f5.params[j]? = some t → args[j]? = some v → Value.okWide Tryz.prog W .any base t v := hval0
  have hW' := hW
  obtain ⟨p, q, hA0, hV, rfl, hfz, hnd⟩ := hW
  have hA : DataW.TrodAll enc Tryz.prog W 0 (fun _ => true) true Tryz.f5.params.toList args.toList ds p := hA0
  rw [Tryz.params5] at hA hval
  obtain ⟨v0, vs0, d0, ds0, p0, q0, hargs, rfl, rfl, g0, r0⟩ := trodAll_cons hA
  obtain ⟨v1, vs1, d1, ds1, p1, q1, rfl, rfl, rfl, g1, r1⟩ := trodAll_cons r0
  obtain ⟨v2, vs2, d2, ds2, p2, q2, rfl, rfl, rfl, g2, r2⟩ := trodAll_cons r1
  obtain ⟨v3, vs3, d3, ds3, p3, q3, rfl, rfl, rfl, g3, r3⟩ := trodAll_cons r2
  obtain ⟨rfl, rfl, rfl⟩ := trodAll_nil r3
  obtain rfl : args = #[v0, v1, v2, v3] := by cases args; simp_all
  have hV0 : DataW.TrodVars enc Tryz.prog W (fun _ => true) [] gs q := hV
  obtain ⟨rfl, rfl⟩ := trodVars_none hV0
  obtain ⟨wrong, rfl, rfl, rfl, w3⟩ := open_int Tryz.underlying5 (hval 3 5 v3 rfl rfl) g3
  have k0 := g0
  have lt0 : ∀ x ∈ p0, x.block < W.heap.size := by obtain ⟨m, hm⟩ := k0; exact DataW.trod_lt m _ _ _ hm
  have hsz0 : (d0.weights Tryz.prog 26).all (· ≤ reachBytes) = true := by
    rw [List.all_eq_true] at h2 ⊢
    exact fun x hx => h2 x (List.mem_append_left _ hx)
  obtain ⟨n, a, b, c, d, s, rfl, hn, ha, hb, hc, hd, hs⟩ := acc_arg (hval 0 26 v0 rfl rfl) g0 hsz0
  have k1 := g1
  have lt1 : ∀ x ∈ p1, x.block < W.heap.size := by obtain ⟨m, hm⟩ := k1; exact DataW.trod_lt m _ _ _ hm
  have hsz1 : (d1.weights Tryz.prog 24).all (· ≤ reachBytes) = true := by
    rw [List.all_eq_true] at h2 ⊢
    exact fun x hx => h2 x (List.mem_append_right _ (List.mem_append_left _ hx))
  obtain ⟨m0, m1, m2, m3, rfl, hm0, hm1, hm2, hm3⟩ := word_arg (hval 1 24 v1 rfl rfl) g1 hsz1
  have k2 := g2
  have lt2 : ∀ x ∈ p2, x.block < W.heap.size := by obtain ⟨m, hm⟩ := k2; exact DataW.trod_lt m _ _ _ hm
  have hsz2 : (d2.weights Tryz.prog 24).all (· ≤ reachBytes) = true := by
    rw [List.all_eq_true] at h2 ⊢
    exact fun x hx => h2 x (List.mem_append_right _ (List.mem_append_right _ (List.mem_append_left _ hx)))
  obtain ⟨e, f, g, h, rfl, he, hf, hg, hh⟩ := word_arg (hval 2 24 v2 rfl rfl) g2 hsz2
  clear hA0 hval0
  refine (once_any n a b c d m0 m1 m2 m3 e f g h wrong s (Nat.le_trans hs (by decide)) (wfu8 w3).1 hn ha hb hc hd hm0 hm1 hm2 hm3 he hf hg hh W).mono fun z W' ⟨hz, bel⟩ => ?_
  subst hz
  exact ⟨_, rfl, _, _, _, [], _, [], hW', trodAll_mk1 (shut_bool Tryz.underlying4 _), (trodAll_cons_mk (Below.trod laidOutR (by kernel_rfl) (of_decide_eq_true (by kernel_rfl)) k0 bel lt0) (trodAll_cons_mk (Below.trod laidOutR (by kernel_rfl) (of_decide_eq_true (by kernel_rfl)) k1 bel lt1) (trodAll_cons_mk (Below.trod laidOutR (by kernel_rfl) (of_decide_eq_true (by kernel_rfl)) k2 bel lt2) (trodAll_cons_mk (shut_int Tryz.underlying5 w3) trodAll_mk0)))), rfl, bel.frame _, fun h => by cases h⟩

theorem forkOnce_said : Rows.ForkOnceSaid :=
  OpenClaim.holds_of_cond 5 Tryz.f5 rfl rfl rfl rfl rfl rfl rfl ⟨rfl, rfl, rfl, rfl, rfl⟩ rfl rfl rfl rfl rfl (by kernel_rfl) Tryz.func5 (by kernel_rfl)
    (of_decide_eq_true (by kernel_rfl)) (by unfold Func.isWrapper; first | (rw [if_pos (by decide +kernel)]; kernel_rfl) | (rw [if_neg (by decide +kernel)]; exact ⟨rfl, rfl⟩))
    (fun os started H enc _ F0 => by rw [OpenClaim.pre_eq_preRow]; exact liftedOnce os started H enc F0)
end Go.Proofs.YtdnpobjokajigaaGreatDoor
