/-
  Plain tools for reading memory: what lies in memory that is turned no more (H), what a call still holds and may turn (parts, apart), and that all else is as it was.
-/
import Derived.WalkKit
import Derived.Below
import Derived.Carry
import Derived.OwnWalk
import Derived.Lib.Hide
import Derived.Deep.AppendSrc
import Derived.Deep.Draws
import Derived.Laws.OwnMore
import Derived.Laws.AppendOwnNone
import Derived.Maps.AppendAt
import Derived.Laws.Tables
import Derived.Laws.Rows
import Derived.Lib.ReflectliteSwap
namespace Go.Proofs.YtdnpobjokajigaaGreatDoor.K
open Go.RowKit

/-! ### Data in memory that is turned no more -/
/-- Memory that is turned no more: the blocks that it has, and what they hold. -/
abbrev Hs := Nat → Option Obj
def Le (H H' : Hs) : Prop := ∀ b o, H b = some o → H' b = some o
theorem Le.refl (H : Hs) : Le H H := fun _ _ h => h
theorem Le.trans {H H' H'' : Hs} (h : Le H H') (k : Le H' H'') : Le H H'' := fun b o e => k b o (h b o e)

/-- What a cell leads to: a plain value, or a slice (how many cells an element has, how many elements, what all their cells lead to). -/
inductive D where
  | v (x : Value)
  | sl (es n : Nat) (xs : List D)

/-- Values that lead nowhere. -/
def plain : Value → Bool
  | .bool _ | .int _ _ | .string _ => true
  | _ => false

/-- The cells from A on hold cs. -/
def Row (H : Hs) (A : Option Addr) (cs : List Value) : Prop :=
  cs = [] ∨ ∃ b o cur t fr, A = some ⟨b, o, none⟩ ∧ H b = some (.cells cur t fr) ∧ ∀ j u, cs[j]? = some u → cur[o + j]? = some u

mutual
inductive RepV (H : Hs) : Value → D → Prop
  | pl {x : Value} (h : plain x = true) : RepV H x (.v x)
  | sl {A : Option Addr} {es n c : Nat} {cs : List Value} {ds : List D} (hc : n ≤ c) (hA : A = none → c = 0) (hl : ds.length = n * es) (hr : Row H A cs) (h : RepL H cs ds) : RepV H (.slice A n c) (.sl es n ds)
inductive RepL (H : Hs) : List Value → List D → Prop
  | nil : RepL H [] []
  | cons {x : Value} {d : D} {xs : List Value} {ds : List D} (h : RepV H x d) (t : RepL H xs ds) : RepL H (x :: xs) (d :: ds)
end

theorem Row.le {H H' : Hs} {A : Option Addr} {cs : List Value} (h : Row H A cs) (hl : Le H H') : Row H' A cs := by
  rcases h with h | ⟨b, o, cur, t, fr, hA, hb, h⟩
  · exact .inl h
  · exact .inr ⟨b, o, cur, t, fr, hA, hl _ _ hb, h⟩
mutual
theorem RepV.le {H H' : Hs} (hl : Le H H') : ∀ {v : Value} {d : D}, RepV H v d → RepV H' v d
  | _, _, .pl h => .pl h
  | _, _, .sl hc hA hn hr h => .sl hc hA hn (hr.le hl) (RepL.le hl h)
theorem RepL.le {H H' : Hs} (hl : Le H H') : ∀ {vs : List Value} {ds : List D}, RepL H vs ds → RepL H' vs ds
  | _, _, .nil => .nil
  | _, _, .cons h t => .cons (RepV.le hl h) (RepL.le hl t)
end

theorem RepL.len {H : Hs} : ∀ {vs : List Value} {ds : List D}, RepL H vs ds → vs.length = ds.length
  | _, _, .nil => rfl
  | _, _, .cons _ t => by simp [RepL.len t]
theorem RepL.append {H : Hs} : ∀ {vs : List Value} {ds : List D} {vs' : List Value} {ds' : List D}, RepL H vs ds → RepL H vs' ds' → RepL H (vs ++ vs') (ds ++ ds')
  | _, _, _, _, .nil, h' => h'
  | _, _, _, _, .cons h t, h' => .cons h (RepL.append t h')
theorem RepL.split {H : Hs} : ∀ {ds ds' : List D} {vs : List Value}, RepL H vs (ds ++ ds') → ∃ a b, vs = a ++ b ∧ RepL H a ds ∧ RepL H b ds'
  | [], _, vs, h => ⟨[], vs, rfl, .nil, h⟩
  | _ :: ds, ds', _, .cons h t => by
    obtain ⟨a, b, rfl, ha, hb⟩ := RepL.split (ds := ds) (ds' := ds') t
    exact ⟨_ :: a, b, rfl, .cons h ha, hb⟩
theorem RepV.plain_inv {H : Hs} {v x : Value} (h : RepV H v (.v x)) : v = x ∧ plain x = true := by
  cases h with
  | pl h => exact ⟨rfl, h⟩
theorem RepV.sl_inv {H : Hs} {v : Value} {es n : Nat} {ds : List D} (h : RepV H v (.sl es n ds)) :
    ∃ A c cs, v = .slice A n c ∧ n ≤ c ∧ (A = none → c = 0) ∧ ds.length = n * es ∧ Row H A cs ∧ RepL H cs ds := by
  cases h with
  | sl hc hA hl hr h => exact ⟨_, _, _, rfl, hc, hA, hl, hr, h⟩
theorem RepL.cons_inv {H : Hs} {vs : List Value} {d : D} {ds : List D} (h : RepL H vs (d :: ds)) : ∃ x xs, vs = x :: xs ∧ RepV H x d ∧ RepL H xs ds := by
  cases h with
  | cons h t => exact ⟨_, _, rfl, h, t⟩
theorem RepL.nil_inv {H : Hs} {vs : List Value} (h : RepL H vs []) : vs = [] := by
  cases h; rfl
theorem RepL.pl_inv {H : Hs} {vs : List Value} {x : Value} {ds : List D} (h : RepL H vs (.v x :: ds)) : ∃ xs, vs = x :: xs ∧ RepL H xs ds := by
  obtain ⟨y, xs, rfl, hy, ht⟩ := h.cons_inv
  obtain ⟨rfl, _⟩ := hy.plain_inv
  exact ⟨xs, rfl, ht⟩
/-- A list of plain values is what it says. -/
theorem RepL.plain_inv {H : Hs} : ∀ {xs : List Value} {vs : List Value}, RepL H vs (xs.map D.v) → vs = xs
  | [], _, h => h.nil_inv
  | x :: xs, _, h => by
    obtain ⟨ys, rfl, ht⟩ := RepL.pl_inv h
    rw [RepL.plain_inv ht]
theorem RepL.plain_mk (H : Hs) : ∀ (xs : List Value), (∀ x ∈ xs, plain x = true) → RepL H xs (xs.map D.v)
  | [], _ => .nil
  | x :: xs, h => .cons (.pl (h x (by simp))) (RepL.plain_mk H xs fun y hy => h y (by simp [hy]))
theorem plain_one {v : Value} (h : plain v = true) : v.oneCell' = true := by
  cases v <;> first | rfl | (simp [plain] at h)
theorem RepV.one {H : Hs} {v : Value} {d : D} (h : RepV H v d) : v.oneCell' = true := by
  cases h with
  | pl h => exact plain_one h
  | sl => rfl
theorem RepL.one {H : Hs} : ∀ {vs : List Value} {ds : List D}, RepL H vs ds → ∀ u ∈ vs, u.oneCell' = true
  | _, _, .nil => by simp
  | _, _, .cons h t => by
    intro u hu
    rcases List.mem_cons.1 hu with rfl | hu
    · exact h.one
    · exact RepL.one t u hu
theorem RepL.get {H : Hs} : ∀ {vs : List Value} {ds : List D}, RepL H vs ds → ∀ {i : Nat} {d : D}, ds[i]? = some d → ∃ x, vs[i]? = some x ∧ RepV H x d
  | _, _, .nil, i, d, hi => by simp at hi
  | _, _, .cons h t, 0, d, hi => by
    cases hi
    exact ⟨_, rfl, h⟩
  | _, _, .cons h t, i + 1, d, hi => RepL.get t (i := i) (by simpa using hi)
theorem RepL.set {H : Hs} : ∀ {vs : List Value} {ds : List D}, RepL H vs ds → ∀ {i : Nat} {d : D} {x : Value}, ds[i]? = some d → RepV H x d → RepL H (vs.set i x) ds
  | _, _, .nil, i, d, x, hi, _ => by simp at hi
  | _, _, .cons h t, 0, d, x, hi, hx => by
    cases hi
    exact .cons hx t
  | _, _, .cons h t, i + 1, d, x, hi, hx => .cons h (RepL.set t (i := i) (by simpa using hi) hx)
/-- The j-th of the i-th's, in a list that is laid flat. -/
theorem flat_get {α β : Type} {f : α → List β} {s : Nat} (hf : ∀ x, (f x).length = s) : ∀ {l : List α} {i j : Nat} {x : α}, l[i]? = some x → j < s → (l.flatMap f)[i * s + j]? = (f x)[j]?
  | [], i, j, x, hi, _ => by simp at hi
  | y :: l, 0, j, x, hi, hj => by
    cases hi
    rw [List.flatMap_cons, List.getElem?_append_left (by rw [hf]; omega), Nat.zero_mul, Nat.zero_add]
  | y :: l, i + 1, j, x, hi, hj => by
    rw [List.flatMap_cons, List.getElem?_append_right (by rw [hf, Nat.succ_mul]; omega), hf, show (i + 1) * s + j - s = i * s + j by rw [Nat.succ_mul]; omega]
    exact flat_get hf (by simpa using hi) hj
theorem flat_length {α β : Type} {f : α → List β} {s : Nat} (hf : ∀ x, (f x).length = s) : ∀ (l : List α), (l.flatMap f).length = l.length * s
  | [] => by simp
  | y :: l => by rw [List.flatMap_cons, List.length_append, hf, flat_length hf l, List.length_cons, Nat.succ_mul]; omega
/-- The world holds what H says. -/
def Ag (H : Hs) (w : World) : Prop := ∀ b o, H b = some o → w.heap[b]? = some o
theorem Row.cell {H : Hs} {w : World} {A : Option Addr} {cs : List Value} (h : Row H A cs) (hw : Ag H w) {j : Nat} {u : Value} (hu : cs[j]? = some u) : ∃ b o, A = some ⟨b, o, none⟩ ∧ w.cell? ⟨b, o + j, none⟩ = some u := by
  rcases h with rfl | ⟨b, o, cur, t, fr, hA, hb, h⟩
  · simp at hu
  · exact ⟨b, o, hA, by rw [cell_of_row w b (o + j) cur t fr (hw _ _ hb)]; exact h j u hu⟩
/-- A row that is not empty, cell by cell. -/
theorem Row.cells {H : Hs} {w : World} {A : Option Addr} {cs : List Value} (h : Row H A cs) (hw : Ag H w) (hn : cs ≠ []) : ∃ b o, A = some ⟨b, o, none⟩ ∧ b < w.heap.size ∧ ∀ j u, cs[j]? = some u → w.cell? ⟨b, o + j, none⟩ = some u := by
  rcases h with h | ⟨b, o, cur, t, fr, hA, hb, h⟩
  · exact absurd h hn
  · exact ⟨b, o, hA, (Array.getElem?_eq_some_iff.1 (hw _ _ hb)).1, fun j u hu => by rw [cell_of_row w b (o + j) cur t fr (hw _ _ hb)]; exact h j u hu⟩
/-- What an own row holds, when it is turned no more. -/
theorem Row.of_own {H : Hs} {w : World} {base : Nat} {e : TypeId} {size n : Nat} {v : Value} {xs : List Value} (h : w.ownsRow base e size v n xs) (hH : ∀ k, v.ownBlock = some k → H k = w.heap[k]?) :
    ∃ A c, v = .slice A n c ∧ n ≤ c ∧ (A = none → c = 0) ∧ Row H A xs := by
  rcases h.2 with ⟨rfl, rfl⟩ | ⟨g, cap, cur, rfl, hb, hg, hn, hc, hcs, htake⟩
  · exact ⟨none, 0, rfl, Nat.le_refl _, fun _ => rfl, .inl (List.eq_nil_of_length_eq_zero (by rw [h.1]; simp))⟩
  · refine ⟨_, cap, rfl, hn, (fun e => by cases e), .inr ⟨g, 0, cur, _, _, rfl, (hH g rfl).trans hg, fun j u hu => ?_⟩⟩
    rw [← htake, List.getElem?_take] at hu
    split at hu
    · rw [Nat.zero_add]; simpa using hu
    · cases hu

/-! ### Parts of memory that may still be turned -/
/-- A part of memory: what it says of a world, by the blocks that it speaks of; it hangs on these blocks alone. -/
structure Hp where
  holds : (Nat → Prop) → World → Prop
  loc : ∀ {F : Nat → Prop} {w w' : World}, (∀ b, F b → w'.heap[b]? = w.heap[b]?) → holds F w → holds F w'
/-- One block, known whole. -/
def blk (b : Nat) (o : Obj) : Hp := ⟨fun F w => F b ∧ w.heap[b]? = some o, fun h ⟨hb, ho⟩ => ⟨hb, (h b hb).trans ho⟩⟩
/-- A slice's own row, with room behind it. -/
def own (e size : Nat) (v : Value) (n : Nat) (xs : List Value) : Hp :=
  ⟨fun F w => w.ownsRow 0 e size v n xs ∧ ∀ k, v.ownBlock = some k → F k, fun {F w w'} h ⟨ho, hF⟩ => by
    refine ⟨⟨ho.1, ?_⟩, hF⟩
    rcases ho.2 with hn | ⟨g, cap, cur, rfl, hb, hg, rest⟩
    · exact .inl hn
    · exact .inr ⟨g, cap, cur, rfl, hb, (h g (hF g rfl)).trans hg, rest⟩⟩

/-- The parts hold, their footprints apart, all within G. -/
def Sep (w : World) : (Nat → Prop) → List Hp → Prop
  | _, [] => True
  | G, p :: ps => ∃ F G', p.holds F w ∧ (∀ b, F b → G b) ∧ (∀ b, G' b → G b) ∧ (∀ b, F b → ¬ G' b) ∧ Sep w G' ps
theorem Sep.mono {w : World} : ∀ {ps : List Hp} {G G' : Nat → Prop}, Sep w G ps → (∀ b, G b → G' b) → Sep w G' ps
  | [], _, _, _, _ => trivial
  | _ :: _, _, _, ⟨F, H, h1, h2, h3, h4, h5⟩, hG => ⟨F, H, h1, fun b hb => hG b (h2 b hb), fun b hb => hG b (h3 b hb), h4, h5⟩
theorem Sep.loc {w w' : World} : ∀ {ps : List Hp} {G : Nat → Prop}, Sep w G ps → (∀ b, G b → w'.heap[b]? = w.heap[b]?) → Sep w' G ps
  | [], _, _, _ => trivial
  | p :: _, _, ⟨F, H, h1, h2, h3, h4, h5⟩, hs => ⟨F, H, p.loc (fun b hb => hs b (h2 b hb)) h1, h2, h3, h4, h5.loc fun b hb => hs b (h3 b hb)⟩
theorem Sep.append {w : World} : ∀ {ps qs : List Hp} {G G' : Nat → Prop}, Sep w G ps → Sep w G' qs → (∀ b, G b → ¬ G' b) → Sep w (fun b => G b ∨ G' b) (ps ++ qs)
  | [], _, _, _, _, h', _ => h'.mono fun _ h => .inr h
  | _ :: _, _, _, G', ⟨F, H, h1, h2, h3, h4, h5⟩, h', hd =>
    ⟨F, fun b => H b ∨ G' b, h1, fun b hb => .inl (h2 b hb), fun b hb => hb.imp (h3 b) id, fun b hb h => h.elim (h4 b hb) (hd b (h2 b hb)), h5.append h' fun b hb => hd b (h3 b hb)⟩
/-- One part, and the others. -/
theorem Sep.take {w : World} : ∀ {ps : List Hp} {G : Nat → Prop} {i : Nat} {p : Hp}, Sep w G ps → ps[i]? = some p → ∃ F G', p.holds F w ∧ (∀ b, F b → G b) ∧ (∀ b, G' b → G b) ∧ (∀ b, F b → ¬ G' b) ∧ Sep w G' (ps.eraseIdx i)
  | [], _, i, _, _, hi => by simp at hi
  | _ :: _, _, 0, _, ⟨F, H, h1, h2, h3, h4, h5⟩, hi => by
    cases hi
    exact ⟨F, H, h1, h2, h3, h4, h5⟩
  | q :: ps, _, i + 1, p, ⟨F, H, h1, h2, h3, h4, h5⟩, hi => by
    obtain ⟨F', H', g1, g2, g3, g4, g5⟩ := h5.take (i := i) (p := p) (by simpa using hi)
    exact ⟨F', fun b => F b ∨ H' b, g1, fun b hb => h3 b (g2 b hb), fun b hb => hb.elim (h2 b) (fun h => h3 b (g3 b h)), fun b hb h => h.elim (fun hf => h4 b hf (g2 b hb)) (g4 b hb),
      ⟨F, H', h1, fun b hb => .inl hb, fun b hb => .inr hb, fun b hb h => h4 b hb (g3 b h), g5⟩⟩

/-- From w0 (with H0) to w (with H): of the blocks that were there only X's may have turned; H is what is turned no more; the parts ps hold, in X and in new blocks. -/
structure St (H0 : Hs) (w0 : World) (X : Nat → Prop) (H : Hs) (w : World) (ps : List Hp) : Prop where
  os : w.os = w0.os
  tape : w.tape = w0.tape
  output : w.output = w0.output
  size : w0.heap.size ≤ w.heap.size
  block : ∀ k, k < w0.heap.size → ¬ X k → w.heap[k]? = w0.heap[k]?
  le : Le H0 H
  new : ∀ b o, H b = some o → H0 b = some o ∨ w0.heap.size ≤ b ∨ X b
  ag : Ag H w
  sep : Sep w (fun b => b < w.heap.size ∧ (w0.heap.size ≤ b ∨ X b) ∧ H b = none) ps

def none_ : Nat → Prop := fun _ => False
variable {H0 H H' : Hs} {w0 w w' : World} {X : Nat → Prop} {ps qs : List Hp}

theorem St.start {H : Hs} {w : World} (h : Ag H w) : St H w none_ H w [] := ⟨rfl, rfl, rfl, Nat.le_refl _, fun _ _ _ => rfl, Le.refl _, fun _ _ h => .inl h, h, trivial⟩
/-- A start with a part that was there. -/
theorem St.begin {F : Nat → Prop} {p : Hp} (hw : Ag H w) (h : p.holds F w) (hF : ∀ b, F b → b < w.heap.size ∧ H b = none) : St H w F H w [p] :=
  ⟨rfl, rfl, rfl, Nat.le_refl _, fun _ _ _ => rfl, Le.refl _, fun _ _ h => .inl h, hw, F, none_, h, fun b hb => ⟨(hF b hb).1, .inr hb, (hF b hb).2⟩, fun _ h => h.elim, fun _ _ h => h, trivial⟩
theorem St.below (h : St H0 w0 none_ H w ps) : Below w0.heap.size w0 w := ⟨h.os, h.tape, h.output, h.size, fun k hk => h.block k hk id⟩
/-- Other memory that is not turned. -/
theorem St.agOther {Ha : Hs} (h : St H0 w0 X H w ps) (ha : Ag Ha w0) (hX : ∀ b, X b → Ha b = none) : Ag Ha w := fun b o hb => by
  have h1 := ha b o hb
  exact (h.block b (Array.getElem?_eq_some_iff.1 h1).1 fun hx => by rw [hX b hx] at hb; cases hb).trans h1
theorem ag_below {H : Hs} {w w' : World} (hw : Ag H w) (h : Below w.heap.size w w') : Ag H w' := fun b o hb => by
  have h1 := hw b o hb
  exact (h.block b (Array.getElem?_eq_some_iff.1 h1).1).trans h1
theorem St.of_below (hw : Ag H w0) (h : Below w0.heap.size w0 w) : St H w0 none_ H w [] := ⟨h.os, h.tape, h.output, h.size, fun k hk _ => h.block k hk, Le.refl _, fun _ _ h => .inl h, ag_below hw h, trivial⟩

/-- The general step: the part i gives way to the parts qs; blocks outside its footprint are as they were. -/
theorem St.step {i : Nat} {p : Hp} (h : St H0 w0 X H w ps) (hi : ps[i]? = some p) : ∃ F, p.holds F w ∧ (∀ b, F b → b < w.heap.size ∧ H b = none) ∧
    ∀ (H' : Hs) (w' : World) (qs : List Hp), St H w F H' w' qs → St H0 w0 X H' w' (qs ++ ps.eraseIdx i) := by
  obtain ⟨F, G', h1, h2, h3, h4, h5⟩ := h.sep.take hi
  refine ⟨F, h1, fun b hb => ⟨(h2 b hb).1, (h2 b hb).2.2⟩, fun H' w' qs s => ⟨s.os.trans h.os, s.tape.trans h.tape, s.output.trans h.output, Nat.le_trans h.size s.size, fun k hk hX => ?_, h.le.trans s.le, ?_, s.ag, ?_⟩⟩
  · have hF : ¬ F k := fun hF => (h2 k hF).2.1.elim (fun hle => by omega) hX
    exact (s.block k (Nat.lt_of_lt_of_le hk h.size) hF).trans (h.block k hk hX)
  · intro b o hb
    rcases s.new b o hb with h1 | h1 | h1
    · exact h.new b o h1
    · exact .inr (.inl (Nat.le_trans h.size h1))
    · exact .inr (h2 b h1).2.1
  · have a := h5.loc (w' := w') fun b hb => s.block b (h3 b hb).1 fun hF => h4 b hF hb
    refine (s.sep.append a ?_).mono ?_
    · intro b hb hg
      rcases hb.2.1 with hb | hb
      · have := (h3 b hg).1; omega
      · exact h4 b hb hg
    · intro b hb
      rcases hb with hb | hb
      · refine ⟨hb.1, ?_, hb.2.2⟩
        rcases hb.2.1 with hb | hb
        · exact .inl (Nat.le_trans h.size hb)
        · exact (h2 b hb).2.1
      · refine ⟨Nat.lt_of_lt_of_le (h3 b hb).1 s.size, (h3 b hb).2.1, ?_⟩
        cases hH : H' b with
        | none => rfl
        | some o =>
          rcases s.new b o hH with h1 | h1 | h1
          · rw [(h3 b hb).2.2] at h1; cases h1
          · have := (h3 b hb).1; omega
          · exact absurd hb (h4 b h1)
/-- .. and the other parts are apart from it. -/
theorem St.stepApart {i : Nat} {p : Hp} (h : St H0 w0 X H w ps) (hi : ps[i]? = some p) : ∃ F, p.holds F w ∧ (∀ b, F b → b < w.heap.size ∧ H b = none) ∧
    (∀ (H' : Hs) (w' : World) (qs : List Hp), St H w F H' w' qs → St H0 w0 X H' w' (qs ++ ps.eraseIdx i)) ∧ ∀ (j : Nat) (q : Hp), (ps.eraseIdx i)[j]? = some q → ∃ G, q.holds G w ∧ ∀ b, F b → ¬ G b := by
  obtain ⟨F, G', h1, h2, h3, h4, h5⟩ := h.sep.take hi
  have S' : St H0 w0 X H w (p :: ps.eraseIdx i) := ⟨h.os, h.tape, h.output, h.size, h.block, h.le, h.new, h.ag, F, G', h1, h2, h3, h4, h5⟩
  refine ⟨F, h1, fun b hb => ⟨(h2 b hb).1, (h2 b hb).2.2⟩, ?_, ?_⟩
  · intro H' w' qs s
    refine ⟨s.os.trans h.os, s.tape.trans h.tape, s.output.trans h.output, Nat.le_trans h.size s.size, fun k hk hX => ?_, h.le.trans s.le, ?_, s.ag, ?_⟩
    · have hF : ¬ F k := fun hF => (h2 k hF).2.1.elim (fun hle => by omega) hX
      exact (s.block k (Nat.lt_of_lt_of_le hk h.size) hF).trans (h.block k hk hX)
    · intro b o hb
      rcases s.new b o hb with h1 | h1 | h1
      · exact h.new b o h1
      · exact .inr (.inl (Nat.le_trans h.size h1))
      · exact .inr (h2 b h1).2.1
    · have a := h5.loc (w' := w') fun b hb => s.block b (h3 b hb).1 fun hF => h4 b hF hb
      refine (s.sep.append a ?_).mono ?_
      · intro b hb hg
        rcases hb.2.1 with hb | hb
        · have := (h3 b hg).1; omega
        · exact h4 b hb hg
      · intro b hb
        rcases hb with hb | hb
        · refine ⟨hb.1, ?_, hb.2.2⟩
          rcases hb.2.1 with hb | hb
          · exact .inl (Nat.le_trans h.size hb)
          · exact (h2 b hb).2.1
        · refine ⟨Nat.lt_of_lt_of_le (h3 b hb).1 s.size, (h3 b hb).2.1, ?_⟩
          cases hH : H' b with
          | none => rfl
          | some o =>
            rcases s.new b o hH with h1 | h1 | h1
            · rw [(h3 b hb).2.2] at h1; cases h1
            · have := (h3 b hb).1; omega
            · exact absurd hb (h4 b h1)
  · intro j q hq
    obtain ⟨G, _, g1, g2, _⟩ := h5.take hq
    exact ⟨G, g1, fun b hb hg => h4 b hb (g2 b hg)⟩
/-- All memory but some blocks. -/
noncomputable def except (w : World) (F : Nat → Prop) : Hs := fun b => by
  classical exact if F b then none else w.heap[b]?
theorem ag_except (w : World) (F : Nat → Prop) : Ag (except w F) w := fun b o hb => by
  unfold except at hb
  split at hb
  · cases hb
  · exact hb
theorem except_none {w : World} {F : Nat → Prop} {b : Nat} (h : F b) : except w F b = none := by
  unfold except
  rw [if_pos h]
theorem except_some {w : World} {F : Nat → Prop} {b : Nat} (h : ¬ F b) : except w F b = w.heap[b]? := by
  unfold except
  rw [if_neg h]
/-- More memory that is turned no more, ahead and behind. -/
def orH (H H' : Hs) : Hs := fun b => match H b with | some o => some o | none => H' b
theorem orH_left (H H' : Hs) : Le H (orH H H') := fun b o h => by simp [orH, h]
theorem orH_right {H H' : Hs} (h : ∀ b o, H' b = some o → H b = none) : Le H' (orH H H') := fun b o hb => by simp [orH, h b o hb, hb]
def empH : Hs := fun _ => none
theorem ag_emp (w : World) : Ag empH w := fun _ _ h => by cases h
theorem St.frameH {w w' : World} {F : Nat → Prop} {Hn H : Hs} {qs : List Hp} (h : St empH w F Hn w' qs) (hF : ∀ b, F b → H b = none) (ha : Ag H w) : St H w F (orH Hn H) w' qs := by
  have hd : ∀ b o, H b = some o → Hn b = none := fun b o hb => by
    cases hn : Hn b with
    | none => rfl
    | some o' =>
      rcases h.new b o' hn with h1 | h1 | h1
      · cases h1
      · have := (Array.getElem?_eq_some_iff.1 (ha b o hb)).1; omega
      · rw [hF b h1] at hb; cases hb
  refine ⟨h.os, h.tape, h.output, h.size, h.block, orH_right hd, fun b o hb => ?_, fun b o hb => ?_, h.sep.mono fun b hb => ⟨hb.1, hb.2.1, ?_⟩⟩
  · unfold orH at hb
    split at hb
    · rename_i o' hn
      cases hb
      rcases h.new b o hn with h1 | h1
      · cases h1
      · exact .inr h1
    · exact .inl hb
  · unfold orH at hb
    split at hb
    · rename_i o' hn
      cases hb
      exact h.ag b o hn
    · exact h.agOther ha hF b o hb
  · unfold orH
    rw [hb.2.2]
    cases hH : H b with
    | none => rfl
    | some o =>
      rcases hb.2.1 with h1 | h1
      · have := (Array.getElem?_eq_some_iff.1 (ha b o hH)).1; omega
      · rw [hF b h1] at hH; cases hH
/-- Less is known to be turned no more; a block of it may be turned again. -/
theorem St.less {H0 H H' : Hs} {w0 w : World} {X : Nat → Prop} {ps : List Hp} (h : St H0 w0 X H w ps) (hle : Le H' H) (h0 : Le H0 H') : St H0 w0 X H' w ps :=
  ⟨h.os, h.tape, h.output, h.size, h.block, h0, fun b o hb => h.new b o (hle b o hb), fun b o hb => h.ag b o (hle b o hb), h.sep.mono fun b hb => ⟨hb.1, hb.2.1, by
    cases hH : H' b with
    | none => rfl
    | some o => rw [hle b o hH] at hb; cases hb.2.2⟩⟩
theorem St.thaw {H0 H H' : Hs} {w0 w : World} {X : Nat → Prop} {ps : List Hp} {b : Nat} {o : Obj} (h : St H0 w0 X H w ps) (hle : Le H' H) (h0 : Le H0 H') (hb : H b = some o) (hb' : H' b = none) : St H0 w0 X H' w (blk b o :: ps) := by
  have h1 := h.less hle h0
  refine ⟨h1.os, h1.tape, h1.output, h1.size, h1.block, h1.le, h1.new, h1.ag, fun x => x = b, fun x => x < w.heap.size ∧ (w0.heap.size ≤ x ∨ X x) ∧ H x = none, ⟨rfl, h.ag b o hb⟩, fun x hx => ?_, fun x hx => ⟨hx.1, hx.2.1, ?_⟩, fun x hx hg => ?_, h.sep⟩
  · subst hx
    refine ⟨(Array.getElem?_eq_some_iff.1 (h.ag x o hb)).1, ?_, hb'⟩
    rcases h.new x o hb with h2 | h2
    · rw [h0 x o h2] at hb'; cases hb'
    · exact h2
  · cases hH : H' x with
    | none => rfl
    | some o => have h2 := hx.2.2; rw [hle x o hH] at h2; cases h2
  · subst hx
    have h2 := hg.2.2
    rw [hb] at h2
    cases h2
/-- A step that turns none of the parts. -/
theorem St.more (h : St H0 w0 X H w ps) (s : St H w none_ H' w' qs) : St H0 w0 X H' w' (qs ++ ps) := by
  refine ⟨s.os.trans h.os, s.tape.trans h.tape, s.output.trans h.output, Nat.le_trans h.size s.size, fun k hk hX => (s.block k (Nat.lt_of_lt_of_le hk h.size) id).trans (h.block k hk hX), h.le.trans s.le, ?_, s.ag, ?_⟩
  · intro b o hb
    rcases s.new b o hb with h1 | h1 | h1
    · exact h.new b o h1
    · exact .inr (.inl (Nat.le_trans h.size h1))
    · exact h1.elim
  have a := h.sep.loc (w' := w') fun b hb => s.block b hb.1 id
  refine (s.sep.append a ?_).mono ?_
  · intro b hb hg
    rcases hb.2.1 with hb | hb
    · have := hg.1; omega
    · exact hb
  · intro b hb
    rcases hb with hb | hb
    · refine ⟨hb.1, ?_, hb.2.2⟩
      rcases hb.2.1 with hb | hb
      · exact .inl (Nat.le_trans h.size hb)
      · exact hb.elim
    · refine ⟨Nat.lt_of_lt_of_le hb.1 s.size, hb.2.1, ?_⟩
      cases hH : H' b with
      | none => rfl
      | some o =>
        rcases s.new b o hH with h1 | h1 | h1
        · rw [hb.2.2] at h1; cases h1
        · have := hb.1; omega
        · exact h1.elim
theorem St.grow (h : St H0 w0 X H w ps) (s : Below w.heap.size w w') : St H0 w0 X H w' ps := h.more (St.of_below h.ag s)
theorem St.drew (h : St H0 w0 X H w ps) : St H0 w0 X H w.drew ps := h.grow ((Below.refl _ _).drew)
theorem St.drewN (h : St H0 w0 X H w ps) (n : Nat) : St H0 w0 X H (w.drewN n) ps := h.grow ⟨rfl, rfl, rfl, Nat.le_refl _, fun _ _ => rfl⟩
theorem ag_none {H : Hs} {w : World} (h : Ag H w) {b : Nat} (hb : w.heap.size ≤ b) : H b = none := by
  cases hH : H b with
  | none => rfl
  | some o => have := (Array.getElem?_eq_some_iff.1 (h b o hH)).1; omega
theorem St.made (hw : Ag H w) (o : Obj) : St H w none_ H (w.alloc o) [blk w.heap.size o] :=
  ⟨rfl, rfl, rfl, by simp, fun k hk _ => Below.heap_alloc _ _ _ hk, Le.refl _, fun _ _ h => .inl h, ag_below hw ((Below.refl _ _).alloc (Nat.le_refl _) o),
    fun b => b = w.heap.size, none_, ⟨rfl, heap_alloc_new w o⟩, fun b hb => ⟨by subst hb; simp, .inl (by subst hb; exact Nat.le_refl _), by subst hb; exact ag_none hw (Nat.le_refl _)⟩, fun _ h => h.elim, fun _ _ h => h, trivial⟩
theorem St.alloc (h : St H0 w0 X H w ps) (o : Obj) : St H0 w0 X H (w.alloc o) (blk w.heap.size o :: ps) := h.more (St.made h.ag o)
theorem St.alloc' (h : St H0 w0 X H w ps) (o : Obj) (n : Nat) (hn : n = w.heap.size) : St H0 w0 X H (w.alloc o) (blk n o :: ps) := hn ▸ h.alloc o
/-- A part is forgotten; the part i comes to the front; a part is seen otherwise. -/
theorem St.drop (h : St H0 w0 X H w ps) (i : Nat) : St H0 w0 X H w (ps.eraseIdx i) := by
  cases hi : ps[i]? with
  | none => rw [List.eraseIdx_of_length_le (by simpa using hi)]; exact h
  | some p =>
    obtain ⟨F, _, _, k⟩ := h.step hi
    exact k H w [] ⟨rfl, rfl, rfl, Nat.le_refl _, fun _ _ _ => rfl, Le.refl _, fun _ _ h => .inl h, h.ag, trivial⟩
theorem St.nil (h : St H0 w0 X H w ps) : St H0 w0 X H w [] := ⟨h.os, h.tape, h.output, h.size, h.block, h.le, h.new, h.ag, trivial⟩
theorem St.see {p q : Hp} (h : St H0 w0 X H w ps) (i : Nat) (hi : ps[i]? = some p) (hq : ∀ F, p.holds F w → q.holds F w) : St H0 w0 X H w (q :: ps.eraseIdx i) := by
  obtain ⟨F, hp, hF, k⟩ := h.step hi
  exact k H w [q] (St.begin h.ag (hq F hp) hF)
theorem St.pick {p : Hp} (h : St H0 w0 X H w ps) (i : Nat) (hi : ps[i]? = some p) : St H0 w0 X H w (p :: ps.eraseIdx i) := h.see i hi fun _ h => h
/-- A part is seen as two; two are seen as one. -/
theorem St.split {r p q : Hp} (h : St H0 w0 X H w ps) (i : Nat) (hi : ps[i]? = some r) (hs : ∀ F, r.holds F w → ∃ F1 F2, p.holds F1 w ∧ q.holds F2 w ∧ (∀ b, F1 b → F b) ∧ (∀ b, F2 b → F b) ∧ ∀ b, F1 b → ¬ F2 b) : St H0 w0 X H w (p :: q :: ps.eraseIdx i) := by
  obtain ⟨F, hp, hF, k⟩ := h.step hi
  obtain ⟨F1, F2, h1, h2, s1, s2, hd⟩ := hs F hp
  exact k H w [p, q] ⟨rfl, rfl, rfl, Nat.le_refl _, fun _ _ _ => rfl, Le.refl _, fun _ _ h => .inl h, h.ag, F1, F2, h1, fun b hb => ⟨(hF b (s1 b hb)).1, .inr (s1 b hb), (hF b (s1 b hb)).2⟩, fun b hb => ⟨(hF b (s2 b hb)).1, .inr (s2 b hb), (hF b (s2 b hb)).2⟩, hd,
    F2, none_, h2, fun _ h => h, fun _ h => h.elim, fun _ _ h => h, trivial⟩
theorem St.join {r p q : Hp} (h : St H0 w0 X H w (p :: q :: ps)) (hs : ∀ F1 F2, p.holds F1 w → q.holds F2 w → (∀ b, F1 b → ¬ F2 b) → r.holds (fun b => F1 b ∨ F2 b) w) : St H0 w0 X H w (r :: ps) := by
  obtain ⟨F1, G1, h1, a1, b1, d1, F2, G2, h2, a2, b2, d2, rest⟩ := h.sep
  exact ⟨h.os, h.tape, h.output, h.size, h.block, h.le, h.new, h.ag, fun b => F1 b ∨ F2 b, G2, hs F1 F2 h1 h2 (fun b hb h2b => d1 b hb (a2 b h2b)), fun b hb => hb.elim (a1 b) (fun hb => b1 b (a2 b hb)), fun b hb => b1 b (b2 b hb),
    fun b hb hg => hb.elim (fun hb => d1 b hb (b2 b hg)) (fun hb => d2 b hb hg), rest⟩
/-- What a part says. -/
theorem St.blk_at {b : Nat} {o : Obj} (h : St H0 w0 X H w ps) (i : Nat) (hi : ps[i]? = some (blk b o)) : w.heap[b]? = some o := by
  obtain ⟨F, hp, _, _⟩ := h.step hi
  exact hp.2
theorem St.blk_lt {b : Nat} {o : Obj} (h : St H0 w0 X H w ps) (i : Nat) (hi : ps[i]? = some (blk b o)) : b < w.heap.size := (Array.getElem?_eq_some_iff.1 (h.blk_at i hi)).1
theorem St.own_at {e size n : Nat} {v : Value} {xs : List Value} (h : St H0 w0 X H w ps) (i : Nat) (hi : ps[i]? = some (own e size v n xs)) : w.ownsRow 0 e size v n xs := by
  obtain ⟨F, hp, _, _⟩ := h.step hi
  exact hp.1
theorem St.cell {b j : Nat} {cs : Array Value} {t : TypeId} {fr : Nat × Nat} {v : Value} (h : St H0 w0 X H w ps) (i : Nat) (hi : ps[i]? = some (blk b (.cells cs t fr))) (hj : cs[j]? = some v) : w.cell? ⟨b, j, none⟩ = some v := by
  rw [cell_of_row w b j cs t fr (h.blk_at i hi)]; exact hj
theorem St.frozen {b : Nat} {cs : Array Value} {t : TypeId} (h : St H0 w0 X H w ps) (i : Nat) (hi : ps[i]? = some (blk b (.cells cs t (0, 0)))) (j : Nat) : w.frozen? ⟨b, j, none⟩ = false := frozen_of_row w b j cs t (h.blk_at i hi)
theorem heap_setCell_at {w : World} {b j : Nat} {cs : Array Value} {t : TypeId} {fr : Nat × Nat} (h : w.heap[b]? = some (.cells cs t fr)) (v : Value) : (w.setCell ⟨b, j, none⟩ v).heap[b]? = some (.cells (cs.setIfInBounds j v) t fr) := by
  simp [World.setCell, Array.getElem?_modify, h]
/-- One block of the footprint is written. -/
theorem St.wrote {F : Nat → Prop} {b : Nat} (hw : Ag H w) (hF : ∀ x, F x → x < w.heap.size ∧ H x = none) (hb : F b) (hos : w'.os = w.os) (ht : w'.tape = w.tape) (hop : w'.output = w.output) (hs : w'.heap.size = w.heap.size)
    (hk : ∀ k, k ≠ b → w'.heap[k]? = w.heap[k]?) {q : Hp} (hq : q.holds F w') : St H w F H w' [q] := by
  refine ⟨hos, ht, hop, by rw [hs]; exact Nat.le_refl _, fun x hx hX => hk x fun e => hX (e ▸ hb), Le.refl _, fun _ _ h => .inl h, fun x o hx => ?_, F, none_, hq, fun x hx => ⟨by rw [hs]; exact (hF x hx).1, .inr hx, (hF x hx).2⟩, fun _ h => h.elim, fun _ _ h => h, trivial⟩
  have hne : x ≠ b := fun e => by rw [e, (hF b hb).2] at hx; cases hx
  exact (hk x hne).trans (hw x o hx)
/-- A store into a block that is known whole. -/
theorem St.setCell {b j : Nat} {cs : Array Value} {t : TypeId} {fr : Nat × Nat} (h : St H0 w0 X H w ps) (i : Nat) (hi : ps[i]? = some (blk b (.cells cs t fr))) (v : Value) :
    St H0 w0 X H (w.setCell ⟨b, j, none⟩ v) (blk b (.cells (cs.setIfInBounds j v) t fr) :: ps.eraseIdx i) := by
  obtain ⟨F, hp, hF, k⟩ := h.step hi
  exact k H (w.setCell ⟨b, j, none⟩ v) [blk b (.cells (cs.setIfInBounds j v) t fr)] (St.wrote (w' := w.setCell ⟨b, j, none⟩ v) (q := blk b (.cells (cs.setIfInBounds j v) t fr)) h.ag hF hp.1 rfl rfl rfl (by simp [World.setCell]) (fun x hx => Below.heap_setCell _ _ _ _ hx) ⟨hp.1, heap_setCell_at hp.2 v⟩)
/-- What H gains. -/
def upd (H : Hs) (b : Nat) (o : Obj) : Hs := fun x => if x = b then some o else H x
theorem upd_at (H : Hs) (b : Nat) (o : Obj) : upd H b o b = some o := by simp [upd]
theorem upd_le {H : Hs} {b : Nat} (o : Obj) (h : H b = none) : Le H (upd H b o) := fun x p hx => by
  unfold upd
  split
  · rename_i e; rw [e, h] at hx; cases hx
  · exact hx
/-- A block is turned no more. -/
theorem St.keep {b : Nat} {o : Obj} (h : St H0 w0 X H w ps) (i : Nat) (hi : ps[i]? = some (blk b o)) : ∃ H', Le H H' ∧ H' b = some o ∧ St H0 w0 X H' w (ps.eraseIdx i) := by
  obtain ⟨F, hp, hF, k⟩ := h.step hi
  have hn := (hF b hp.1).2
  refine ⟨upd H b o, upd_le o hn, upd_at _ _ _, k _ w [] ⟨rfl, rfl, rfl, Nat.le_refl _, fun _ _ _ => rfl, upd_le o hn, fun x p hx => ?_, fun x p hx => ?_, trivial⟩⟩
  · unfold upd at hx
    split at hx
    · rename_i e; exact .inr (.inr (e ▸ hp.1))
    · exact .inl hx
  · unfold upd at hx
    split at hx
    · rename_i e; cases hx; rw [e]; exact hp.2
    · exact h.ag x p hx
/-- What H' has beyond H may be turned (were it not kept). -/
def Warm (H H' : Hs) : Prop := ∀ b o, H' b = some o → H b = some o ∨ ∃ cs t, o = .cells cs t (0, 0)
theorem Warm.refl (H : Hs) : Warm H H := fun _ _ h => .inl h
theorem Warm.trans {H H' H'' : Hs} (h : Warm H H') (k : Warm H' H'') : Warm H H'' := fun b o e => (k b o e).elim (h b o) .inr
/-- An own row is turned no more: it reads as what it holds. -/
theorem St.keepOwnW {e size n : Nat} {v : Value} {xs : List Value} {ds : List D} (h : St H0 w0 X H w ps) (i : Nat) (hi : ps[i]? = some (own e size v n xs)) (hr : RepL H xs ds) :
    ∃ H', Le H H' ∧ Warm H H' ∧ RepV H' v (.sl size n ds) ∧ St H0 w0 X H' w (ps.eraseIdx i) := by
  obtain ⟨F, hp, hF, k⟩ := h.step hi
  have hl : ds.length = n * size := by rw [← hr.len]; exact hp.1.1
  cases hv : v.ownBlock with
  | none =>
    obtain ⟨A, c, rfl, hc, hA, hrow⟩ := Row.of_own (H := H) hp.1 (fun k hk => by rw [hv] at hk; cases hk)
    exact ⟨H, Le.refl _, Warm.refl _, .sl hc hA hl hrow hr, k H w [] ⟨rfl, rfl, rfl, Nat.le_refl _, fun _ _ _ => rfl, Le.refl _, fun _ _ h => .inl h, h.ag, trivial⟩⟩
  | some b =>
    have hb := hp.2 b hv
    have hlt := (hF b hb).1
    have hn := (hF b hb).2
    have ho : w.heap[b]? = some w.heap[b] := Array.getElem?_eq_getElem hlt
    obtain ⟨A, c, rfl, hc, hA, hrow⟩ := Row.of_own (H := upd H b w.heap[b]) hp.1 (fun k hk => by rw [hv] at hk; cases hk; rw [upd_at, ho])
    refine ⟨upd H b w.heap[b], upd_le _ hn, fun x p hx => ?_, .sl hc hA hl hrow (hr.le (upd_le _ hn)), k _ w [] ⟨rfl, rfl, rfl, Nat.le_refl _, fun _ _ _ => rfl, upd_le _ hn, fun x p hx => ?_, fun x p hx => ?_, trivial⟩⟩
    · unfold upd at hx
      split at hx
      · cases hx
        right
        rcases hp.1.2 with ⟨e1, _⟩ | ⟨g, cap, cur, e1, _, hg, _⟩
        · rw [e1] at hv; cases hv
        · rw [e1] at hv
          cases hv
          rw [ho] at hg
          exact ⟨_, _, Option.some.inj hg⟩
      · exact .inl hx
    · unfold upd at hx
      split at hx
      · rename_i e; exact .inr (.inr (e ▸ hb))
      · exact .inl hx
    · unfold upd at hx
      split at hx
      · rename_i e; cases hx; rw [e]; exact ho
      · exact h.ag x p hx
theorem St.keepOwn {e size n : Nat} {v : Value} {xs : List Value} {ds : List D} (h : St H0 w0 X H w ps) (i : Nat) (hi : ps[i]? = some (own e size v n xs)) (hr : RepL H xs ds) :
    ∃ H', Le H H' ∧ RepV H' v (.sl size n ds) ∧ St H0 w0 X H' w (ps.eraseIdx i) := by
  obtain ⟨H', h1, _, h2, h3⟩ := h.keepOwnW i hi hr
  exact ⟨H', h1, h2, h3⟩
/-- 'append' onto an own row. -/
theorem St.appended {e size n n' : Nat} {v v' : Value} {xs xs' : List Value} (h : St H0 w0 X H w ps) (i : Nat) (hi : ps[i]? = some (own e size v n xs)) (ho : w'.ownsRow 0 e size v' n' xs') (hg : w.grownBy w' v.ownBlock)
    (hb : v'.ownBlock = v.ownBlock ∨ v'.ownBlock = some w.heap.size) : St H0 w0 X H w' (own e size v' n' xs' :: ps.eraseIdx i) := by
  obtain ⟨F, hp, hF, k⟩ := h.step hi
  refine k H w' [own e size v' n' xs'] ⟨hg.os, hg.tape, hg.output, hg.size, fun x hx hX => hg.block x hx fun e => hX (hp.2 x e.symm), Le.refl _, fun _ _ h => .inl h, fun x o hx => ?_, fun b => b < w'.heap.size ∧ (F b ∨ w.heap.size ≤ b), none_, ⟨ho, fun b hb' => ?_⟩, fun b hb' => ?_, fun _ h => h.elim, fun _ _ h => h, trivial⟩
  · have h1 := h.ag x o hx
    refine (hg.block x (Array.getElem?_eq_some_iff.1 h1).1 fun e => ?_).trans h1
    rw [(hF x (hp.2 x e.symm)).2] at hx
    cases hx
  · have hlt : b < w'.heap.size := (ho.lt b hb').2
    rcases hb with hb | hb
    · exact ⟨hlt, .inl (hp.2 b (hb ▸ hb'))⟩
    · rw [hb] at hb'
      cases hb'
      exact ⟨hlt, .inr (Nat.le_refl _)⟩
  · refine ⟨hb'.1, hb'.2.symm, ?_⟩
    rcases hb'.2 with hb | hb
    · exact (hF b hb).2
    · exact ag_none h.ag hb
/-- .. for the walk; what is appended lies at ad. -/
theorem wpList_append_st {P : Program} {ops : Array Oper} {rest : List Oper} {o : Oper} {a : Act} {Q : Exit → Act → World → Prop} {size n : Nat} {v : Value} {xs : List Value} (i : Nat) (e : TypeId) (S : St H0 w0 X H w ps) (hi : ps[i]? = some (own e size v n xs))
    (hgd : o.guard = none) (s x : Operand) (t : TypeId) (ho : o.op = .call { callee := .builtin .append, args := #[s, x], argTypes := #[t, t] }) (inf : TypeInfo) (z : Value) (bytes : Nat)
    (ht : P.underlying t = some (.slice e)) (hinf : P.info? e = some inf) (hz : inf.zero = some z) (hsize : inf.size = size) (hby : inf.bytes = bytes) (hzs : z.cells.size = size) (hsz : 0 < size)
    (hs : a.eval s = v) (ad : Addr) (m c : Nat) (news : List Value) (hx : a.eval x = .slice (some ad) m c) (hl : news.length = m * size) (hnews : ∀ j u, news[j]? = some u → w.cell? (ad.add j) = some u) (h1 : ∀ u ∈ news, u.oneCell' = true)
    (h63 : n + m ≤ maxLen) (hbytes : (n + m) * bytes ≤ 140737488355328)
    (h : ∀ A c w', St H0 w0 X H w' (own e size (.slice A (n + m) c) (n + m) (xs ++ news) :: ps.eraseIdx i) → wpList P ops Q rest (a.put o.dst (.slice A (n + m) c)) w') : wpList P ops Q (o :: rest) a w := by
  refine wpList_append_own_at w hgd s x t ho 0 e inf z size bytes ht hinf hz hsize hby hzs hsz v n xs hs (S.own_at i hi) ad m c news hx hl hnews h1 h63 hbytes (Nat.zero_le _) ?_
  intro v' w' ho' hg _ hb
  have S' := S.appended i hi ho' hg hb
  rcases ho'.2 with ⟨rfl, h0⟩ | ⟨g, cap, cur, rfl, _⟩
  · rw [h0] at S' h; exact h _ _ _ S'
  · exact h _ _ _ S'
/-- A block that is known whole is written whole. -/
theorem St.setRow {b : Nat} {old : Array Value} {t : TypeId} {fr : Nat × Nat} (h : St H0 w0 X H w ps) (i : Nat) (hi : ps[i]? = some (blk b (.cells old t fr))) (cs : Array Value) :
    St H0 w0 X H (w.setRow b cs) (blk b (.cells cs t fr) :: ps.eraseIdx i) := by
  obtain ⟨F, hp, hF, k⟩ := h.step hi
  exact k H (w.setRow b cs) [blk b (.cells cs t fr)] (St.wrote (w' := w.setRow b cs) (q := blk b (.cells cs t fr)) h.ag hF hp.1 rfl rfl rfl (by simp)
    (fun x hx => by simp only [World.setRow, Array.getElem?_modify]; rw [if_neg (by omega)]) ⟨hp.1, setRow_heap w b old cs t fr hp.2⟩)
/-- A struct's or an array's whole block is read, or written: for the walk. -/
theorem wpList_load_st {P : Program} {ops : Array Oper} {rest : List Oper} {o : Oper} {a : Act} {Q : Exit → Act → World → Prop} {b : Nat} {cs : Array Value} {t : TypeId} {fr : Nat × Nat} (i : Nat) (S : St H0 w0 X H w ps) (hi : ps[i]? = some (blk b (.cells cs t fr)))
    (hgd : o.guard = none) (ty : TypeId) (x : Operand) (ho : o.op = .load ty x) (hx : a.eval x = .pointer (some ⟨b, 0, none⟩)) (d : TypeDesc)
    (hu : P.underlying ty = some d) (hd : (match d with | .struct _ | .array _ _ => true | _ => false) = true) (hs : (P.info? ty).map (·.size) = some cs.size)
    (h : wpList P ops Q rest (a.put o.dst (.agg cs)) w) : wpList P ops Q (o :: rest) a w := wpList_load_row hgd ty x ho b hx t cs fr d (S.blk_at i hi) hu hd hs h
theorem wpList_store_st {P : Program} {ops : Array Oper} {rest : List Oper} {o : Oper} {a : Act} {Q : Exit → Act → World → Prop} {b : Nat} {cs old : Array Value} {t : TypeId} (i : Nat) (S : St H0 w0 X H w ps) (hi : ps[i]? = some (blk b (.cells old t (0, 0))))
    (hgd : o.guard = none) (ty : TypeId) (x y : Operand) (ho : o.op = .store ty x y) (hx : a.eval x = .pointer (some ⟨b, 0, none⟩)) (hy : a.eval y = .agg cs)
    (hs : (P.info? ty).map (·.size) = some cs.size) (hold : old.size = cs.size) (h1 : cs.all (·.oneCell') = true)
    (h : ∀ w', St H0 w0 X H w' (blk b (.cells cs t (0, 0)) :: ps.eraseIdx i) → wpList P ops Q rest (a.put o.dst undef) w') : wpList P ops Q (o :: rest) a w :=
  wpList_store_row hgd ty x y ho b cs hx hy t old (S.blk_at i hi) hs hold h1 (h _ (S.setRow i hi cs))
/-- A whole block, as the walk may ask for it. -/
def wholeAt (w : World) (b : Nat) : Option (Array Value) := match w.heap[b]? with | some (.cells cs _ _) => some cs | _ => none
theorem wholeAt_of {w : World} {b : Nat} {cs : Array Value} {t : TypeId} {fr : Nat × Nat} (h : w.heap[b]? = some (.cells cs t fr)) : wholeAt w b = some cs := by simp [wholeAt, h]
def slowLoad (ty : TypeId) (a : Addr) : Sem Value := loadVar ty a
theorem loadVar_row {P : Program} (ty : TypeId) (d : TypeDesc) (n : Nat) (hu : P.underlying ty = some d) (hd : (match d with | .struct _ | .array _ _ => true | _ => false) = true) (hs : (P.info? ty).map (·.size) = some n) (w : World) (b : Nat) :
    (loadVar ty ⟨b, 0, none⟩).run P w = (match wholeAt w b with | some cs => if cs.size = n then .ok (.agg cs) w else (slowLoad ty ⟨b, 0, none⟩).run P w | none => (slowLoad ty ⟨b, 0, none⟩).run P w) := by
  unfold slowLoad
  cases hr : wholeAt w b with
  | none => rfl
  | some cs =>
    by_cases hn : cs.size = n
    · simp only [hn, if_true]
      unfold wholeAt at hr
      split at hr
      · rename_i cs' t fr hh
        cases hr
        exact run_loadVar_row w b t ty cs fr d hh hu hd (by rw [hs, hn])
      · cases hr
    · simp only [hn, if_false]
/-- A whole block loaded, at the operation: a rule for the walk's simp ('attribute [local go_sem ↓]' of an instance). -/
def slowExec (ev : Operand → Value) (o : Oper) : Sem Next := execOp ev o
def loadWhole (P : Program) (n : Nat) (ev : Operand → Value) (o : Oper) (w : World) : Value → Result Next
  | .pointer (some ⟨b, 0, none⟩) => match wholeAt w b with | some cs => if cs.size = n then .ok (.value (.agg cs)) w else (slowExec ev o).run P w | none => (slowExec ev o).run P w
  | _ => (slowExec ev o).run P w
theorem exec_load_row {P : Program} (ty : TypeId) (d : TypeDesc) (n : Nat) (hu : P.underlying ty = some d) (hd : (match d with | .struct _ | .array _ _ => true | _ => false) = true) (hs : (P.info? ty).map (·.size) = some n)
    (ev : Operand → Value) (dst : Option Tmp) (x : Operand) (t : TypeId) (pos : String) (after : Array Edge) (g : Option (Nat × Bool)) (w : World) :
    (execOp ev ⟨dst, .load ty x, t, pos, after, g⟩).run P w = loadWhole P n ev ⟨dst, .load ty x, t, pos, after, g⟩ w (ev x) := by
  unfold loadWhole slowExec
  split
  · rename_i b hx
    cases hr : wholeAt w b with
    | none => rfl
    | some cs =>
      by_cases hn : cs.size = n
      · simp only [hn, if_true]
        unfold wholeAt at hr
        split at hr
        · rename_i cs' t fr hh
          cases hr
          unfold execOp
          simp only [hx, Instr.loadAt, Instr.sureAddr, Sem.run_bind, Sem.run_pure, Result.andThen_ok, run_loadVar_row w b t ty cs fr d hh hu hd (by rw [hs, hn])]
        · cases hr
      · simp only [hn, if_false]
  · rfl
theorem loadWhole_at (P : Program) (n : Nat) (ev : Operand → Value) (o : Oper) (w : World) (b : Nat) : loadWhole P n ev o w (.pointer (some ⟨b, 0, none⟩)) =
    match wholeAt w b with | some cs => if cs.size = n then .ok (.value (.agg cs)) w else (slowExec ev o).run P w | none => (slowExec ev o).run P w := rfl
/-- What a growth that may write one block leaves. -/
theorem grown_of_below {w w' : World} (h : Below w.heap.size w w') (c : Nat) : w.grownBy w' (some c) := ⟨h.os, h.tape, h.output, h.size, fun k hk _ => h.block k hk⟩
theorem grown_drew {w w' : World} {c : Nat} (h : w.drew.grownBy w' (some c)) : w.grownBy w' (some c) := ⟨h.os, h.tape, h.output, h.size, h.block⟩
theorem grown_set {w w' : World} {c : Nat} (h : w.grownBy w' (some c)) (o : Obj) : w.grownBy { w' with heap := w'.heap.setIfInBounds c o } (some c) :=
  ⟨h.os, h.tape, h.output, by show _ ≤ (w'.heap.setIfInBounds c o).size; simpa using h.size, fun k hk hne => by
    show (w'.heap.setIfInBounds c o)[k]? = _
    rw [Array.getElem?_setIfInBounds, if_neg (fun e => hne (by rw [e]))]
    exact h.block k hk hne⟩
/-- A block that is known whole, loaded. -/
theorem loadCells_blk {P : Program} {w : World} {b : Nat} {cs : Array Value} {t : TypeId} {fr : Nat × Nat} (h : w.heap[b]? = some (.cells cs t fr)) (n : Nat) (hn : cs.size = n) : (loadCellsFrom ⟨b, 0, none⟩ 0 n #[]).run P w = .ok cs w := by
  subst hn
  have := run_loadCells_list (P := P) w ⟨b, 0, none⟩ cs.toList (fun j v hv => by
    rw [Addr.add_lit, Nat.zero_add, cell_of_row _ _ j cs t fr h]
    simpa using hv)
  simpa [loadCells] using this
/-- .. at a step of a region that draws its order. -/
theorem step_store_st {P : Program} {ops : Array Oper} {o : Oper} {a : Act} {K : Act → World → Prop} {Q : Exit → Act → World → Prop} {E : Prop} {b : Nat} {cs old : Array Value} {t : TypeId} (i : Nat) (S : St H0 w0 X H w ps) (hi : ps[i]? = some (blk b (.cells old t (0, 0))))
    (hgd : o.guard = none) (ty : TypeId) (x y : Operand) (ho : o.op = .store ty x y) (hx : a.eval x = .pointer (some ⟨b, 0, none⟩)) (hy : a.eval y = .agg cs)
    (hs : (P.info? ty).map (·.size) = some cs.size) (hold : old.size = cs.size) (h1 : cs.all (·.oneCell') = true)
    (h : ∀ w', St H0 w0 X H w' (blk b (.cells cs t (0, 0)) :: ps.eraseIdx i) → K (a.put o.dst undef) w') : if Region.wanted o (yielded ops a.tmps) = true then Oper.wp P o a w K Q else E := by
  rw [if_pos (by simp [Region.wanted, hgd])]
  exact wp_store_row ty x y ho b cs hx hy t old (S.blk_at i hi) hs hold h1 (h _ (S.setRow i hi cs))
/-- A result that lies in a block that is known whole. -/
theorem post_cell {P : Program} {fn : Func} {R : Ending → World → Prop} {a : Act} {b : Nat} {cs : Array Value} {t : TypeId} {fr : Nat × Nat} (i : Nat) (S : St H0 w0 X H w ps) (hi : ps[i]? = some (blk b (.cells cs t fr))) {p : Tmp} {ty : TypeId} (hr : fn.results = #[.cell p ty])
    (hp : a.tmps.getD p undef = .pointer (some ⟨b, 0, none⟩)) (d : TypeDesc) (hu : P.underlying ty = some d) (hd : (match d with | .struct _ | .array _ _ => true | _ => false) = true) (hs : (P.info? ty).map (·.size) = some cs.size)
    (hdf : a.defers = []) (hR : R (.returned (.agg cs)) w) : bodyPost P fn R .ret a w :=
  bodyPost_ret (results_cell_row hr a.tmps w b t cs fr d hp (S.blk_at i hi) hu hd hs) hdf hR
/-- .. and one beside it. -/
theorem post_cell2 {P : Program} {fn : Func} {R : Ending → World → Prop} {a : Act} {b : Nat} {cs : Array Value} {t : TypeId} {fr : Nat × Nat} (i : Nat) (S : St H0 w0 X H w ps) (hi : ps[i]? = some (blk b (.cells cs t fr))) {p q : Tmp} {ty : TypeId} (hr : fn.results = #[.cell p ty, .tmp q])
    (hp : a.tmps.getD p undef = .pointer (some ⟨b, 0, none⟩)) (d : TypeDesc) (hu : P.underlying ty = some d) (hd : (match d with | .struct _ | .array _ _ => true | _ => false) = true) (hs : (P.info? ty).map (·.size) = some cs.size)
    (hdf : a.defers = []) (hR : R (.returned (.tuple #[.agg cs, a.tmps.getD q undef])) w) : bodyPost P fn R .ret a w := by
  refine bodyPost_ret ?_ hdf hR
  have hp' : a.tmps[p]?.getD undef = .pointer (some ⟨b, 0, none⟩) := by simpa using hp
  simp [results, hr, hp', asAddr, run_loadVar_row w b t ty cs fr d (S.blk_at i hi) hu hd hs]
/-- A store into an own row. -/
theorem St.setOwn {e size n g c : Nat} {xs : List Value} (h : St H0 w0 X H w ps) (i : Nat) (hi : ps[i]? = some (own e size (.slice (some ⟨g, 0, none⟩) n c) n xs)) (j : Nat) (u : Value) :
    St H0 w0 X H (w.setCell ⟨g, j, none⟩ u) (own e size (.slice (some ⟨g, 0, none⟩) n c) n (xs.set j u) :: ps.eraseIdx i) := by
  obtain ⟨F, hp, hF, k⟩ := h.step hi
  exact k H (w.setCell ⟨g, j, none⟩ u) [own e size (.slice (some ⟨g, 0, none⟩) n c) n (xs.set j u)]
    (St.wrote (w' := w.setCell ⟨g, j, none⟩ u) (q := own e size (.slice (some ⟨g, 0, none⟩) n c) n (xs.set j u)) h.ag hF (hp.2 g rfl) rfl rfl rfl (by simp [World.setCell]) (fun x hx => Below.heap_setCell _ _ _ _ hx) ⟨(hp.1.stored j u).1, fun k hk => hp.2 k hk⟩)
theorem St.ownCell {e size n g c : Nat} {xs : List Value} (h : St H0 w0 X H w ps) (i : Nat) (hi : ps[i]? = some (own e size (.slice (some ⟨g, 0, none⟩) n c) n xs)) (j : Nat) (hj : j < n * size) : w.cell? ⟨g, j, none⟩ = xs[j]? := (h.own_at i hi).cellAt j hj
theorem St.ownFrozen {e size n g c : Nat} {xs : List Value} (h : St H0 w0 X H w ps) (i : Nat) (hi : ps[i]? = some (own e size (.slice (some ⟨g, 0, none⟩) n c) n xs)) (j : Nat) : w.frozen? ⟨g, j, none⟩ = false := (h.own_at i hi).frozenAt j
theorem St.ownForm {e size n c : Nat} {A : Option Addr} {xs : List Value} (h : St H0 w0 X H w ps) (i : Nat) (hi : ps[i]? = some (own e size (.slice A n c) n xs)) (hn : 0 < n) : ∃ g, A = some ⟨g, 0, none⟩ ∧ g < w.heap.size := by
  obtain ⟨F, hp, hF, k⟩ := h.step hi
  rcases hp.1.2 with ⟨hv, h0⟩ | ⟨g, cap, cur, hv, _, hg, _⟩
  · omega
  · cases hv
    exact ⟨g, rfl, (Array.getElem?_eq_some_iff.1 hg).1⟩
/-- One cell is written: for the walk. -/
theorem wp_store_one {P : Program} {o : Oper} {a : Act} {K : Act → World → Prop} {Q : Exit → Act → World → Prop} (ty : TypeId) (x y : Operand) (ho : o.op = .store ty x y) (ad : Addr) (u old : Value) (hx : a.eval x = .pointer (some ad)) (hy : a.eval y = u) (h1 : u.oneCell' = true)
    (hs : (P.info? ty).map (·.size) = some 1) (hc : w.cell? ad = some old) (hf : w.frozen? ad = false) (h : K (a.put o.dst undef) (w.setCell ad u)) : o.wp P a w K Q := by
  cases hq : P.info? ty with
  | none => simp [hq] at hs
  | some i =>
    have hsz : i.size = 1 := by simpa [hq] using hs
    unfold Oper.wp execOp
    simp only [ho, hx, hy, Instr.storeAt, Instr.sureAddr, Sem.run_bind, Sem.run_pure, Result.andThen_ok, Lib.rl_storeVar_one ty i hq hsz ad u old h1 w hc hf]
    exact h
theorem wpList_setBlk_st {P : Program} {ops : Array Oper} {rest : List Oper} {o : Oper} {a : Act} {Q : Exit → Act → World → Prop} {b j : Nat} {cs : Array Value} {t : TypeId} {old u : Value} (i : Nat) (S : St H0 w0 X H w ps) (hi : ps[i]? = some (blk b (.cells cs t (0, 0))))
    (hgd : o.guard = none) (ty : TypeId) (x y : Operand) (ho : o.op = .store ty x y) (hx : a.eval x = .pointer (some ⟨b, j, none⟩)) (hy : a.eval y = u) (h1 : u.oneCell' = true) (hs : (P.info? ty).map (·.size) = some 1) (hj : cs[j]? = some old)
    (h : ∀ w', St H0 w0 X H w' (blk b (.cells (cs.setIfInBounds j u) t (0, 0)) :: ps.eraseIdx i) → wpList P ops Q rest (a.put o.dst undef) w') : wpList P ops Q (o :: rest) a w :=
  wpList_plain hgd fun _ hK => wp_store_one ty x y ho _ u old hx hy h1 hs (S.cell i hi hj) (S.frozen i hi j) (hK _ _ (h _ (S.setCell i hi u)))
theorem wpList_setOwn_st {P : Program} {ops : Array Oper} {rest : List Oper} {o : Oper} {a : Act} {Q : Exit → Act → World → Prop} {e size n g c j : Nat} {xs : List Value} {u : Value} (i : Nat) (S : St H0 w0 X H w ps) (hi : ps[i]? = some (own e size (.slice (some ⟨g, 0, none⟩) n c) n xs))
    (hgd : o.guard = none) (ty : TypeId) (x y : Operand) (ho : o.op = .store ty x y) (hx : a.eval x = .pointer (some ⟨g, j, none⟩)) (hy : a.eval y = u) (h1 : u.oneCell' = true) (hs : (P.info? ty).map (·.size) = some 1) (hj : j < n * size)
    (h : ∀ w', St H0 w0 X H w' (own e size (.slice (some ⟨g, 0, none⟩) n c) n (xs.set j u) :: ps.eraseIdx i) → wpList P ops Q rest (a.put o.dst undef) w') : wpList P ops Q (o :: rest) a w := by
  have hl : j < xs.length := by rw [(S.own_at i hi).1]; exact hj
  exact wpList_plain hgd fun _ hK => wp_store_one ty x y ho _ u xs[j] hx hy h1 hs ((S.ownCell i hi j hj).trans (List.getElem?_eq_getElem hl)) (S.ownFrozen i hi j) (hK _ _ (h _ (S.setOwn i hi j u)))
/-- A row that H holds is what is appended. -/
theorem Row.news {H : Hs} {w : World} {ad : Addr} {cs : List Value} (h : Row H (some ad) cs) (hw : Ag H w) : ∀ j u, cs[j]? = some u → w.cell? (ad.add j) = some u := by
  intro j u hu
  obtain ⟨b, o, hA, hc⟩ := h.cell hw hu
  cases hA
  rw [Addr.add_lit]
  exact hc
/-- The same, whatever the appended slice is (nil too). -/
theorem wpList_append_opt {P : Program} {ops : Array Oper} {rest : List Oper} {o : Oper} {a : Act} {Q : Exit → Act → World → Prop} {size n : Nat} {v : Value} {xs : List Value} {Ha : Hs} (i : Nat) (e : TypeId) (S : St H0 w0 X H w ps) (hi : ps[i]? = some (own e size v n xs))
    (hgd : o.guard = none) (s x : Operand) (t : TypeId) (ho : o.op = .call { callee := .builtin .append, args := #[s, x], argTypes := #[t, t] }) (inf : TypeInfo) (z : Value) (bytes : Nat)
    (ht : P.underlying t = some (.slice e)) (hinf : P.info? e = some inf) (hz : inf.zero = some z) (hsize : inf.size = size) (hby : inf.bytes = bytes) (hzs : z.cells.size = size) (hsz : 0 < size)
    (hs : a.eval s = v) (A : Option Addr) (m c : Nat) (news : List Value) (hx : a.eval x = .slice A m c) (hA : A = none → c = 0) (hr : Row Ha A news) (ha : Ag Ha w) (hl : news.length = m * size) (h1 : ∀ u ∈ news, u.oneCell' = true)
    (h63 : n + m ≤ maxLen) (hbytes : (n + m) * bytes ≤ 140737488355328)
    (h : ∀ A c w', St H0 w0 X H w' (own e size (.slice A (n + m) c) (n + m) (xs ++ news) :: ps.eraseIdx i) → wpList P ops Q rest (a.put o.dst (.slice A (n + m) c)) w') : wpList P ops Q (o :: rest) a w := by
  rcases A with _ | ad
  · have hn : news = [] := by
      rcases hr with hr | ⟨b, o, _, _, _, hA, _⟩
      · exact hr
      · cases hA
    subst hn
    obtain rfl := hA rfl
    have hm : m = 0 := by
      rcases Nat.eq_zero_or_pos m with h0 | h0
      · exact h0
      · have := Nat.mul_pos h0 hsz
        simp at hl
        omega
    subst hm
    refine wpList_append_own_none hgd s x t ho 0 e inf size ht hinf v n xs hs (S.own_at i hi) hx ?_
    have ho' := S.own_at i hi
    rcases ho'.2 with ⟨rfl, h0⟩ | ⟨g, cap, cur, rfl, _⟩
    · have h2 := h none 0 w (by simpa [h0] using S.pick i hi)
      rwa [h0] at h2
    · exact h _ _ w (by simpa using S.pick i hi)
  · exact wpList_append_st i e S hi hgd s x t ho inf z bytes ht hinf hz hsize hby hzs hsz hs ad m c news hx hl (hr.news ha) h1 h63 hbytes h
/-- The first cells of a row. -/
theorem Row.take {H : Hs} {A : Option Addr} {cs : List Value} (h : Row H A cs) (n : Nat) : Row H A (cs.take n) := by
  rcases h with rfl | ⟨b, o, cur, t, fr, hA, hb, h⟩
  · exact .inl (by simp)
  · refine .inr ⟨b, o, cur, t, fr, hA, hb, fun j u hu => h j u ?_⟩
    rw [List.getElem?_take] at hu
    split at hu
    · exact hu
    · cases hu
/-- A new row. -/
theorem St.madeRow {e size n : Nat} (h : St H0 w0 X H w ps) (cs : Array Value) (hs : cs.size = n * size) (hn : n ≤ maxLen) : St H0 w0 X H (w.alloc (.cells cs e)) (own e size (.slice (some ⟨w.heap.size, 0, none⟩) n n) n cs.toList :: ps) :=
  (h.alloc (.cells cs e)).see 0 rfl fun F hF => ⟨⟨by simp [hs], .inr ⟨w.heap.size, n, cs, rfl, Nat.zero_le _, hF.2, Nat.le_refl _, hn, hs, by rw [← hs]; exact List.take_of_length_le (by simp)⟩⟩, fun k hk => by cases hk; exact hF.1⟩
theorem Sep_own_nil {e size : Nat} {w : World} {G : Nat → Prop} : Sep w G [own e size (.slice none 0 0) 0 []] :=
  ⟨none_, none_, ⟨World.ownsRow_nil _ _ _ _, (fun _ h => by cases h)⟩, fun _ h => h.elim, fun _ h => h.elim, fun _ h => h.elim, trivial⟩
theorem St.own_nil {e size : Nat} (h : St H0 w0 X H w ps) : St H0 w0 X H w (own e size (.slice none 0 0) 0 [] :: ps) :=
  h.more ⟨rfl, rfl, rfl, Nat.le_refl _, fun _ _ _ => rfl, Le.refl _, fun _ _ h => .inl h, h.ag, Sep_own_nil⟩
theorem frozen_later {w wx : World} {a : Addr} {v : Value} (hb : Below w.heap.size w wx) (h : w.cell? a = some v) (hf : w.frozen? a = false) : wx.frozen? a = false :=
  (hb.frozen (World.block_lt_of_cell? w a h)).trans hf
/-- A new row of one element of two cells, the second one a slice that is a part. -/
theorem St.madeHold {e e' s' n' : Nat} {v : Value} {xs : List Value} (h : St H0 w0 X H w ps) (i : Nat) (_hi : ps[i]? = some (own e' s' v n' xs)) (x : Value) : St H0 w0 X H (w.alloc (.cells #[x, v] e)) (own e 2 (.slice (some ⟨w.heap.size, 0, none⟩) 1 1) 1 [x, v] :: ps) :=
  h.madeRow #[x, v] rfl (by decide)
/-- Old memory, cell by cell. -/
theorem St.oldCell (h : St H0 w0 none_ H w ps) : ∀ b o, b < w0.heap.size → w.cell? ⟨b, o, none⟩ = w0.cell? ⟨b, o, none⟩ := fun b o hb => h.below.cell (p := ⟨b, o, none⟩) hb
/-- All that a start holds is turned no more. -/
def allOf (w : World) : Hs := fun b => w.heap[b]?
theorem ag_allOf (w : World) : Ag (allOf w) w := fun _ _ h => h
end Go.Proofs.YtdnpobjokajigaaGreatDoor.K
