/-
  A slice's own row that begins anywhere in its block: append, cut.
  Clients in memory: Left, Known, Script.
-/
import Derived.Test.YtdnpobjokajigaaGreatDoorPart9
import Derived.ArgAppend
import Derived.Deep.Upon
import Derived.Test.YtdnpobjokajigaaGreatDoorPart11
import Derived.Test.YtdnpobjokajigaaGreatDoorPart13
import Derived.WalkSpells
namespace Go.Proofs.YtdnpobjokajigaaGreatDoor.K
open Go.RowKit
set_option linter.unusedVariables false

def rowO (w : World) (e : TypeId) (size : Nat) (v : Value) (n : Nat) (xs : List Value) : Prop :=
  xs.length = n * size ∧ ((v = .slice none 0 0 ∧ n = 0) ∨ ∃ g off cap cur, v = .slice (some ⟨g, off, none⟩) n cap ∧ w.heap[g]? = some (.cells cur e (0, 0)) ∧ n ≤ cap ∧ off + cap * size ≤ cur.size ∧ ∀ j u, xs[j]? = some u → cur[off + j]? = some u)
def ownO (e size : Nat) (v : Value) (n : Nat) (xs : List Value) : Hp :=
  ⟨fun F w => rowO w e size v n xs ∧ ∀ k, v.ownBlock = some k → F k, fun {F w w'} h ⟨ho, hF⟩ => by
    refine ⟨⟨ho.1, ?_⟩, hF⟩
    rcases ho.2 with hn | ⟨g, off, cap, cur, rfl, hg, rest⟩
    · exact .inl hn
    · exact .inr ⟨g, off, cap, cur, rfl, (h g (hF g rfl)).trans hg, rest⟩⟩
theorem rowO_of {w : World} {base e size n : Nat} {v : Value} {xs : List Value} (h : w.ownsRow base e size v n xs) : rowO w e size v n xs := by
  refine ⟨h.1, ?_⟩
  rcases h.2 with hn | ⟨g, cap, cur, rfl, _, hg, hnc, _, hcs, htake⟩
  · exact .inl hn
  · refine .inr ⟨g, 0, cap, cur, rfl, hg, hnc, by omega, fun j u hu => ?_⟩
    rw [← htake, List.getElem?_take] at hu
    split at hu
    · rw [Nat.zero_add]; simpa using hu
    · cases hu
theorem rowO.lt {w : World} {e size n : Nat} {v : Value} {xs : List Value} (h : rowO w e size v n xs) : ∀ k, v.ownBlock = some k → k < w.heap.size := by
  intro k hk
  rcases h.2 with ⟨rfl, _⟩ | ⟨g, off, cap, cur, rfl, hg, _⟩
  · cases hk
  · cases hk
    exact (Array.getElem?_eq_some_iff.1 hg).1
theorem rowO.form {w : World} {e size n : Nat} {v : Value} {xs : List Value} (h : rowO w e size v n xs) : ∃ A c, v = .slice A n c ∧ n ≤ c ∧ (A = none → n = 0 ∧ c = 0) := by
  rcases h.2 with ⟨rfl, rfl⟩ | ⟨g, off, cap, cur, rfl, hg, hc, _⟩
  · exact ⟨none, 0, rfl, Nat.le_refl _, fun _ => ⟨rfl, rfl⟩⟩
  · exact ⟨_, cap, rfl, hc, fun e => by cases e⟩
theorem rowO.cells {w : World} {e size n c : Nat} {ad : Addr} {xs : List Value} (h : rowO w e size (.slice (some ad) n c) n xs) : ∀ j u, xs[j]? = some u → w.cell? (ad.add j) = some u := by
  intro j u hu
  rcases h.2 with ⟨hv, _⟩ | ⟨g, off, cap, cur, hv, hg, _, _, hx⟩
  · cases hv
  · cases hv
    rw [Addr.add_lit, cell_of_row w g (off + j) cur e (0, 0) hg]
    exact hx j u hu
theorem setL_get : ∀ (vs : List Value) (cs : Array Value) (o i : Nat), o + vs.length ≤ cs.size → (setL cs o vs)[i]? = if o ≤ i ∧ i < o + vs.length then vs[i - o]? else cs[i]?
  | [], cs, o, i, _ => by
    rw [if_neg (by intro hh; simp at hh; omega)]
    rfl
  | v :: r, cs, o, i, h => by
    have ih := setL_get r (cs.setIfInBounds o v) (o + 1) i (by rw [Array.size_setIfInBounds]; simp at h; omega)
    show (setL (cs.setIfInBounds o v) (o + 1) r)[i]? = _
    rw [ih]
    simp only [List.length_cons] at h ⊢
    by_cases h1 : o + 1 ≤ i ∧ i < o + 1 + r.length
    · rw [if_pos h1, if_pos (by omega), show i - o = (i - (o + 1)) + 1 by omega, List.getElem?_cons_succ]
    · rw [if_neg h1, Array.getElem?_setIfInBounds]
      by_cases h2 : o = i
      · subst h2
        rw [if_pos rfl, if_pos (by omega), if_pos (by omega), Nat.sub_self, List.getElem?_cons_zero]
      · rw [if_neg h2, if_neg (by omega)]
theorem setL_size : ∀ (vs : List Value) (cs : Array Value) (o : Nat), (setL cs o vs).size = cs.size
  | [], _, _ => rfl
  | v :: r, cs, o => by
    show (setL (cs.setIfInBounds o v) (o + 1) r).size = _
    rw [setL_size r, Array.size_setIfInBounds]
theorem heap_setCells : ∀ (vs : List Value) (w : World) (b o : Nat) (cs : Array Value) (t : TypeId) (fr : Nat × Nat), w.heap[b]? = some (.cells cs t fr) → (w.setCells b o vs).heap[b]? = some (.cells (setL cs o vs) t fr)
  | [], _, _, _, _, _, _, h => h
  | v :: r, w, b, o, cs, t, fr, h => heap_setCells r (w.setCell ⟨b, o, none⟩ v) b (o + 1) (cs.setIfInBounds o v) t fr (heap_setCell_at h v)
theorem grown_setCells : ∀ (vs : List Value) (w : World) (b o : Nat), w.grownBy (w.setCells b o vs) (some b)
  | [], w, b, o => ⟨rfl, rfl, rfl, Nat.le_refl _, fun _ _ _ => rfl⟩
  | v :: r, w, b, o => by
    have ih := grown_setCells r (w.setCell ⟨b, o, none⟩ v) b (o + 1)
    have hsz : (w.setCell ⟨b, o, none⟩ v).heap.size = w.heap.size := by simp [World.setCell]
    refine ⟨ih.os, ih.tape, ih.output, by have := ih.size; rw [hsz] at this; exact this, fun k hk hne => ?_⟩
    refine (ih.block k (by rw [hsz]; exact hk) hne).trans ?_
    exact Below.heap_setCell _ _ _ _ (fun e => hne (by rw [e]))
theorem run_appendO {P : Program} (w : World) (t ty e : TypeId) (i : TypeInfo) (z : Value) (size bytes : Nat) (ht : P.underlying t = some (.slice e)) (hi : P.info? e = some i) (hz : i.zero = some z)
    (hsize : i.size = size) (hby : i.bytes = bytes) (hzs : z.cells.size = size) (hsz : 0 < size) (v : Value) (n : Nat) (xs : List Value) (hown : rowO w e size v n xs)
    (a : Addr) (m c : Nat) (news : List Value) (hl : news.length = m * size) (hnews : ∀ j u, news[j]? = some u → w.cell? (a.add j) = some u) (h1 : ∀ u ∈ news, u.oneCell' = true)
    (h63 : n + m ≤ maxLen) (hbytes : (n + m) * bytes ≤ 140737488355328) :
    ∃ v' w', (Builtin.append_ #[t, t] ty #[v, .slice (some a) m c]).run P w = .ok v' w' ∧ rowO w' e size v' (n + m) (xs ++ news) ∧ w.grownBy w' v.ownBlock ∧ ∀ k, v'.ownBlock = some k → v.ownBlock = some k ∨ w.heap.size ≤ k := by
  have hlen : (xs ++ news).length = (n + m) * size := by rw [List.length_append, hown.1, hl, Nat.add_mul]
  rcases hown.2 with ⟨rfl, rfl⟩ | ⟨g, off, cap, cur, rfl, hg, hnc, hcs, hcur⟩
  · have hx0 : xs = [] := List.eq_nil_of_length_eq_zero (by rw [hown.1]; simp)
    subst hx0
    obtain ⟨v', w', hr, ho, hgr, _, hb⟩ := run_append_own_at (P := P) w 0 t ty e i z size bytes ht hi hz hsize hby hzs hsz _ 0 [] (World.ownsRow_nil _ _ _ _) a m c news hl hnews h1 h63 hbytes (Nat.zero_le _)
    exact ⟨v', w', hr, rowO_of ho, hgr, fun k hk => by
      rcases hb with hb | hb
      · rw [hb] at hk; exact .inl hk
      · rw [hb] at hk; cases hk; exact .inr (Nat.le_refl _)⟩
  · by_cases hroom : n + m ≤ cap
    · have hin : ∀ j, j < news.length → off + n * size + j < cur.size := fun j hj => by
        have h2 : (n + m) * size ≤ cap * size := Nat.mul_le_mul_right _ hroom
        rw [Nat.add_mul] at h2
        omega
      have hr := run_append_room_cells (P := P) w t ty e i ht hi g off n cap a m c news (by rw [hsize]; exact hl) hnews h1 hroom (fun j hj => by
        rw [hsize, cell_of_row w g _ cur e (0, 0) hg, Array.getElem?_eq_getElem (hin j hj)]; rfl) (fun j hj => frozen_of_row w g _ cur e hg)
      rw [hsize] at hr
      refine ⟨_, _, hr, ⟨hlen, .inr ⟨g, off, cap, _, rfl, heap_setCells news w g (off + n * size) cur e (0, 0) hg, hroom, by rw [setL_size]; exact hcs, fun j u hu => ?_⟩⟩, grown_setCells _ _ _ _, fun k hk => .inl hk⟩
      have hfit : off + n * size + news.length ≤ cur.size := by
        have h2 : (n + m) * size ≤ cap * size := Nat.mul_le_mul_right _ hroom
        rw [Nat.add_mul] at h2
        omega
      rw [setL_get _ _ _ _ hfit]
      by_cases hj : j < n * size
      · rw [if_neg (by omega)]
        rw [List.getElem?_append_left (by rw [hown.1]; exact hj)] at hu
        exact hcur j u hu
      · rw [List.getElem?_append_right (by rw [hown.1]; omega), hown.1] at hu
        have hj2 := (List.getElem?_eq_some_iff.1 hu).1
        rw [if_pos (by omega), show off + j - (off + n * size) = j - n * size by omega]
        exact hu
    · obtain ⟨v', w', hr, ho, hgr⟩ := run_append_arg_grows (P := P) w t ty e i z size bytes ht hi hz hsize hby hzs hsz ⟨g, off, none⟩ n cap xs hown.1 hown.cells a m c news hl hnews (by omega) h63 hbytes
      exact ⟨v', w', hr, rowO_of ho, ⟨hgr.os, hgr.tape, hgr.output, hgr.size, fun k hk _ => hgr.block k hk (by simp)⟩, fun k hk => .inr (ho.lt k hk).1⟩
section
variable {H0 H : Hs} {w0 w w' : World} {X : Nat → Prop} {ps : List Hp}
theorem St.ownO_of {e size n : Nat} {v : Value} {xs : List Value} (h : St H0 w0 X H w ps) (i : Nat) (hi : ps[i]? = some (own e size v n xs)) : St H0 w0 X H w (ownO e size v n xs :: ps.eraseIdx i) :=
  h.see i hi fun F ⟨ho, hF⟩ => ⟨rowO_of ho, hF⟩
theorem St.ownO_at {e size n : Nat} {v : Value} {xs : List Value} (h : St H0 w0 X H w ps) (i : Nat) (hi : ps[i]? = some (ownO e size v n xs)) : rowO w e size v n xs := by
  obtain ⟨F, hp, _, _⟩ := h.step hi
  exact hp.1
theorem St.appendedO {e size n n' : Nat} {v v' : Value} {xs xs' : List Value} (h : St H0 w0 X H w ps) (i : Nat) (hi : ps[i]? = some (ownO e size v n xs)) (ho : rowO w' e size v' n' xs') (hg : w.grownBy w' v.ownBlock)
    (hb : ∀ k, v'.ownBlock = some k → v.ownBlock = some k ∨ w.heap.size ≤ k) : St H0 w0 X H w' (ownO e size v' n' xs' :: ps.eraseIdx i) := by
  obtain ⟨F, hp, hF, k⟩ := h.step hi
  refine k H w' [ownO e size v' n' xs'] ⟨hg.os, hg.tape, hg.output, hg.size, fun x hx hX => hg.block x hx fun e => hX (hp.2 x e.symm), Le.refl _, fun _ _ h => .inl h, fun x o hx => ?_, fun b => b < w'.heap.size ∧ (F b ∨ w.heap.size ≤ b), none_, ⟨ho, fun b hb' => ?_⟩, fun b hb' => ?_, fun _ h => h.elim, fun _ _ h => h, trivial⟩
  · have h1 := h.ag x o hx
    refine (hg.block x (Array.getElem?_eq_some_iff.1 h1).1 fun e => ?_).trans h1
    rw [(hF x (hp.2 x e.symm)).2] at hx
    cases hx
  · exact ⟨ho.lt b hb', (hb b hb').imp (fun h => hp.2 b h) id⟩
  · refine ⟨hb'.1, hb'.2.symm, ?_⟩
    rcases hb'.2 with hb | hb
    · exact (hF b hb).2
    · exact ag_none h.ag hb
/-- 'append' onto such a row, of cells that lie anywhere, or of none. -/
theorem wpList_appendO_st {P : Program} {ops : Array Oper} {rest : List Oper} {o : Oper} {a : Act} {Q : Exit → Act → World → Prop} {size n : Nat} {v : Value} {xs : List Value} (i : Nat) (e : TypeId) (S : St H0 w0 X H w ps) (hi : ps[i]? = some (ownO e size v n xs))
    (hgd : o.guard = none) (s x : Operand) (t : TypeId) (ho : o.op = .call { callee := .builtin .append, args := #[s, x], argTypes := #[t, t] }) (inf : TypeInfo) (z : Value) (bytes : Nat)
    (ht : P.underlying t = some (.slice e)) (hinf : P.info? e = some inf) (hz : inf.zero = some z) (hsize : inf.size = size) (hby : inf.bytes = bytes) (hzs : z.cells.size = size) (hsz : 0 < size)
    (hs : a.eval s = v) (A : Option Addr) (m c : Nat) (news : List Value) (hx : a.eval x = .slice A m c) (hA : A = none → m = 0 ∧ c = 0) (hl : news.length = m * size) (hnews : ∀ ad, A = some ad → ∀ j u, news[j]? = some u → w.cell? (ad.add j) = some u) (h1 : ∀ u ∈ news, u.oneCell' = true)
    (h63 : n + m ≤ maxLen) (hbytes : (n + m) * bytes ≤ 140737488355328)
    (h : ∀ A c w', St H0 w0 X H w' (ownO e size (.slice A (n + m) c) (n + m) (xs ++ news) :: ps.eraseIdx i) → wpList P ops Q rest (a.put o.dst (.slice A (n + m) c)) w') : wpList P ops Q (o :: rest) a w := by
  have hown := S.ownO_at i hi
  refine wpList_plain hgd fun K hK => ?_
  have key : ∃ v' w', (Builtin.append_ #[t, t] o.type #[v, .slice A m c]).run P w = .ok v' w' ∧ rowO w' e size v' (n + m) (xs ++ news) ∧ w.grownBy w' v.ownBlock ∧ ∀ k, v'.ownBlock = some k → v.ownBlock = some k ∨ w.heap.size ≤ k := by
    rcases A with _ | ad
    · obtain ⟨rfl, rfl⟩ := hA rfl
      obtain rfl : news = [] := List.eq_nil_of_length_eq_zero (by omega)
      obtain ⟨A', c', rfl, hc', _⟩ := hown.form
      have hr := run_append_nothing (P := P) w t t o.type e inf ht hinf A' n c' hc' (.slice none 0 0) (Src.ofNil w ht 0)
      exact ⟨_, _, hr, by simpa using hown, ⟨rfl, rfl, rfl, Nat.le_refl _, fun _ _ _ => rfl⟩, fun k hk => .inl hk⟩
    · exact run_appendO (P := P) w t o.type e inf z size bytes ht hinf hz hsize hby hzs hsz v n xs hown ad m c news hl (hnews ad rfl) h1 h63 hbytes
  obtain ⟨v', w', hr, h2, h3, h4⟩ := key
  obtain ⟨A', c', rfl, _⟩ := h2.form
  unfold Oper.wp execOp
  simp only [ho, resolve, invoke, builtin, Sem.run_bind, Sem.run_pure, Result.andThen_ok, List.map_toArray, List.map_cons, List.map_nil, hs, hx, hr]
  exact hK _ _ (h _ _ w' (S.appendedO i hi h2 h3 h4))
/-- What is left of a slice behind its first ones. -/
def cutV (k size : Nat) : Value → Value
  | .slice A n c => .slice (if c = k then A else A.map (·.add (k * size))) (n - k) (c - k)
  | v => v
theorem rowO.cut {e size n k : Nat} {v : Value} {xs : List Value} (h : rowO w e size v n xs) (hk : k ≤ n) : rowO w e size (cutV k size v) (n - k) (xs.drop (k * size)) := by
  refine ⟨by rw [List.length_drop, h.1, Nat.sub_mul], ?_⟩
  rcases h.2 with ⟨rfl, rfl⟩ | ⟨g, off, cap, cur, rfl, hg, hnc, hcs, hcur⟩
  · obtain rfl : k = 0 := by omega
    exact .inl ⟨rfl, rfl⟩
  · right
    by_cases hc : cap = k
    · subst hc
      refine ⟨g, off, 0, cur, ?_, hg, by omega, by omega, fun j u hu => ?_⟩
      · simp [cutV]
      · rw [List.drop_of_length_le (by rw [h.1]; exact Nat.mul_le_mul_right _ (by omega))] at hu
        simp at hu
    · refine ⟨g, off + k * size, cap - k, cur, ?_, hg, by omega, ?_, fun j u hu => ?_⟩
      · simp only [cutV, if_neg hc, Option.map_some, Addr.add_lit]
      · have : (k + (cap - k)) * size = cap * size := by rw [show k + (cap - k) = cap by omega]
        rw [Nat.add_mul] at this
        omega
      · rw [List.getElem?_drop] at hu
        rw [Nat.add_assoc]
        exact hcur _ _ hu
theorem St.cutO {e size n : Nat} {v : Value} {xs : List Value} (h : St H0 w0 X H w ps) (i : Nat) (hi : ps[i]? = some (ownO e size v n xs)) (k : Nat) (hk : k ≤ n) : St H0 w0 X H w (ownO e size (cutV k size v) (n - k) (xs.drop (k * size)) :: ps.eraseIdx i) :=
  h.see i hi fun F ⟨ho, hF⟩ => ⟨ho.cut hk, fun b hb => hF b (by
    rcases ho.2 with ⟨rfl, _⟩ | ⟨g, off, cap, cur, rfl, _⟩
    · simp [cutV, Value.ownBlock] at hb
    · rw [← hb]
      by_cases hc : cap = k <;> simp [cutV, Value.ownBlock, Addr.add_lit, hc])⟩
theorem cut_run {P : Program} {t e : TypeId} {size n k : Nat} {v : Value} {xs : List Value} (ht : P.underlying t = some (.slice e)) (hs : (P.info? e).map (·.size) = some size) (h : rowO w e size v n xs) (hk : k ≤ n) : (Instr.slice t v (some (.int .i64 k)) none none).run P w = .ok (cutV k size v) w := by
  obtain ⟨A, c, rfl, hc, _⟩ := h.form
  have he : P.elem t = e := by simp [Program.elem, ht]
  have ht' : P.underlying t = some (.slice (P.elem t)) := by rw [he]; exact ht
  obtain ⟨i, hi, hs'⟩ := Option.map_eq_some_iff.1 hs
  rw [run_slice_l w t A n c ht' .i64 (k : Int) (by omega) (by omega)]
  simp [sizeOf, typeInfo, he, hi, hs', sliced, cutV, Result.andThen]
end
end Go.Proofs.YtdnpobjokajigaaGreatDoor.K

namespace Go.Proofs.YtdnpobjokajigaaGreatDoor
open Go.RowKit Go.Proofs K
set_option linter.unusedVariables false

def strS (l : List ByteArray) : List Value := l.map Value.string
def cliO (d k : Nat) (C : Cl) (sv av : Value) : Obj := .cells #[.pointer (some ⟨d, 0, none⟩), .string C.name, .map (some k), sv, av, .int .u64 C.next] 119
def cliP (c d : Nat) (C : Cl) : Hp := exP fun x : Nat × Value × Value => star (blk c (cliO d x.1 C x.2.1 x.2.2)) (star (mapP encA x.1 (repM C.known)) (star (ownO 9 1 x.2.1 C.script.length (strS C.script)) (own 9 1 x.2.2 C.asked.length (strS C.asked))))
section
variable {H0 H : Hs} {w0 w : World} {X : Nat → Prop} {ps : List Hp}
theorem openCli {c d : Nat} {C : Cl} (h : St H0 w0 X H w ps) (i : Nat) (hi : ps[i]? = some (cliP c d C)) :
    ∃ k A1 n1 A2 n2, St H0 w0 X H w (ownO 9 1 (.slice A1 C.script.length n1) C.script.length (strS C.script) :: own 9 1 (.slice A2 C.asked.length n2) C.asked.length (strS C.asked) :: mapP encA k (repM C.known) :: blk c (cliO d k C (.slice A1 C.script.length n1) (.slice A2 C.asked.length n2)) :: ps.eraseIdx i) := by
  obtain ⟨⟨k, sv, av⟩, h1⟩ := h.unex i hi
  have h2 := ((h1.unstar 0 rfl).unstar 1 rfl).unstar 1 rfl
  obtain ⟨A1, n1, rfl, _⟩ := (h2.ownO_at 0 rfl).form
  obtain ⟨A2, n2, rfl, _⟩ := own_form (h2.own_at 1 rfl)
  exact ⟨k, A1, n1, A2, n2, h2⟩
theorem shutCli {c d k : Nat} {C : Cl} {sv av : Value} (h : St H0 w0 X H w (ownO 9 1 sv C.script.length (strS C.script) :: own 9 1 av C.asked.length (strS C.asked) :: mapP encA k (repM C.known) :: blk c (cliO d k C sv av) :: ps)) : St H0 w0 X H w (cliP c d C :: ps) :=
  St.mkex (k, sv, av) (((h.mkstar.pick 1 rfl).mkstar.pick 1 rfl).mkstar)
set_option maxRecDepth 100000 in
theorem left_any {c d : Nat} {C : Cl} (S : St H0 w0 X H w ps) (i : Nat) (hi : ps[i]? = some (cliP c d C)) :
    Calls Tryz.prog 25 #[.pointer (some ⟨c, 0, none⟩)] w (RetS (.int .i64 C.script.length) H0 H w0 X (cliP c d C :: ps.eraseIdx i)) := by
  obtain ⟨k, A1, n1, A2, n2, S1⟩ := openCli S i hi
  have c3 : w.cell? ⟨c, 3, none⟩ = some (.slice A1 C.script.length n1) := S1.cell 3 rfl rfl
  have HS := Lib.hid (S.pick i hi)
  clear S S1
  go_enter Tryz.func25, Tryz.ntmps25
  go_wp2_with fail
  go_ret
  exact ⟨rfl, HS.out⟩
set_option maxRecDepth 100000 in
theorem known_any {c d : Nat} {C : Cl} (S : St H0 w0 X H w ps) (i : Nat) (hi : ps[i]? = some (cliP c d C)) :
    Calls Tryz.prog 23 #[.pointer (some ⟨c, 0, none⟩)] w (RetS (.int .i64 C.known.length) H0 H w0 X (cliP c d C :: ps.eraseIdx i)) := by
  obtain ⟨k, A1, n1, A2, n2, S1⟩ := openCli S i hi
  have c2 : w.cell? ⟨c, 2, none⟩ = some (.map (some k)) := S1.cell 3 rfl rfl
  have HS1 := Lib.hid S1
  have HS := Lib.hid (S.pick i hi)
  clear S S1
  go_enter Tryz.func23, Tryz.ntmps23
  go_wp2_with (first
    | (refine wpList_maplen_st 2 HS1.out rfl Tryz.underlying117 rfl _ rfl rfl ?_; rw [repM_len])
    | fail)
  go_ret
  exact ⟨rfl, HS.out⟩
set_option maxRecDepth 100000 in
set_option maxHeartbeats 1000000 in
theorem script_any {c d : Nat} {C : Cl} (S : St H0 w0 X H w ps) (i : Nat) (hi : ps[i]? = some (cliP c d C)) (A : Option Addr) (n : Nat) (l : List ByteArray) (hA : A = none → l.length = 0 ∧ n = 0) (hl : ∀ ad, A = some ad → ∀ j u, (strS l)[j]? = some u → w.cell? (ad.add j) = some u)
    (hn : C.script.length + l.length ≤ 1000000) :
    Calls Tryz.prog 18 #[.pointer (some ⟨c, 0, none⟩), .slice A l.length n] w (RetS (.tuple #[]) H0 H w0 X (cliP c d { C with script := C.script ++ l } :: ps.eraseIdx i)) := by
  obtain ⟨k, A1, n1, A2, n2, S1⟩ := openCli S i hi
  obtain ⟨i0, hi0, hz0, hz1, hz2⟩ := info_parts infoStr
  have c3 : w.cell? ⟨c, 3, none⟩ = some (.slice A1 C.script.length n1) := S1.cell 3 rfl rfl
  have HS1 := Lib.hid S1
  have HA := Lib.hid hA
  have HL := Lib.hid hl
  have HN := Lib.hid hn
  clear S S1 hA hl hn
  go_enter Tryz.func18, Tryz.ntmps18
  go_wp2_with (first
    | (at_builtin; refine wpList_appendO_st 0 9 HS1.out rfl rfl _ _ 39 rfl i0 _ 16 Tryz.underlying39 hi0 hz0 hz1 hz2 rfl (by decide) rfl A l.length n (strS l) rfl HA.out (by simp [strS]) HL.out (by simp [strS, Value.oneCell']) (by unfold maxLen; have := HN.out; omega) (by have := HN.out; omega) ?_)
    | fail)
  intro A' n' w2 S2
  have HS2 := Lib.hid S2
  have d3 : w2.cell? ⟨c, 3, none⟩ = some (.slice A1 C.script.length n1) := S2.cell 3 rfl rfl
  have f3 : w2.frozen? ⟨c, 3, none⟩ = false := S2.frozen 3 rfl 3
  clear S2 HS1 c3
  go_wp2_with fail
  go_end0
  refine ⟨rfl, ?_⟩
  have S3 := ((((HS2.out.setCell (j := 3) 3 rfl (.slice A' (C.script.length + l.length) n')).pick 3 rfl).pick 3 rfl).pick 3 rfl)
  refine shutCli (k := k) (sv := .slice A' (C.script.length + l.length) n') (av := .slice A2 C.asked.length n2) ?_
  show St H0 w0 X H _ (ownO 9 1 _ (C.script ++ l).length (strS (C.script ++ l)) :: _)
  rw [List.length_append, show strS (C.script ++ l) = strS C.script ++ strS l by simp [strS]]
  exact S3
/-- slices.Clone of texts. -/
def CloneS (H0 H : Hs) (w0 : World) (X : Nat → Prop) (ps : List Hp) (l : List ByteArray) (e : Ending) (w' : World) : Prop :=
  ∃ A n, e = .returned (.slice A l.length n) ∧ St H0 w0 X H w' (own 9 1 (.slice A l.length n) l.length (strS l) :: ps)
set_option maxRecDepth 100000 in
set_option maxHeartbeats 1000000 in
theorem cloneS_any (S : St H0 w0 X H w ps) (i : Nat) (A : Option Addr) (n : Nat) (l : List ByteArray) (hi : ps[i]? = some (own 9 1 (.slice A l.length n) l.length (strS l))) (hn : l.length ≤ 1000000) :
    Calls Tryz.prog 72 #[.slice A l.length n] w (CloneS H0 H w0 X ps l) := by
  have qn := fun (w : World) (a : Option Addr) (n c n' c' : Nat) => Lib.run_eql_slice_nil (P := Tryz.prog) w _ _ a n c n' c' Tryz.underlying39
  obtain ⟨i0, hi0, hz0, hz1, hz2⟩ := info_parts infoStr
  have ho := S.own_at i hi
  rcases A with _ | ad
  · obtain ⟨h0, h1⟩ : l.length = 0 ∧ n = 0 := by
      obtain ⟨A', c, e, _, h2⟩ := own_form ho
      cases e
      exact h2 rfl
    have hl : l = [] := List.eq_nil_of_length_eq_zero h0
    subst hl
    subst h1
    have HS2 := Lib.hid (S.own_nil (e := 9) (size := 1))
    clear S ho hi
    simp only [List.length_nil]
    go_enter Tryz.func72, Tryz.ntmps72
    go_wp2_with fail
    go_ret
    exact ⟨none, 0, rfl, HS2.out⟩
  · have S2 := S.madeRow (e := 9) (size := 1) (n := 0) #[] rfl (by decide)
    have HC : Hid (∀ j u, (strS l)[j]? = some u → (w.alloc (.cells #[] 9)).cell? (ad.add j) = some u) := Lib.hid fun j u h => cell_later ((Below.refl _ w).alloc (Nat.le_refl _) _) ((rowO_of ho).cells j u h)
    have HN := Lib.hid hn
    clear S ho hi hn
    go_enter Tryz.func72, Tryz.ntmps72
    go_wp2_with (first
      | (at_builtin; refine wpList_append_st 0 9 S2 rfl rfl _ _ 39 rfl i0 _ 16 Tryz.underlying39 hi0 hz0 hz1 hz2 rfl (by decide) rfl ad l.length n (strS l) rfl (by simp [strS]) HC.out (by simp [strS, Value.oneCell']) (by unfold maxLen; have := HN.out; omega) (by have := HN.out; omega) ?_)
      | fail)
    intro A1 c1 w1 S1
    have SH : Hid (St H0 w0 X H w1 (own 9 1 (.slice A1 l.length c1) l.length (strS l) :: ps)) := by first | exact S1 | (unfold Hid; simpa using S1)
    clear S1 S2 HC
    go_wp2_with fail
    go_ret
    exact ⟨A1, c1, rfl, SH.out⟩
set_option maxRecDepth 100000 in
theorem asked_any {c d : Nat} {C : Cl} (S : St H0 w0 X H w ps) (i : Nat) (hi : ps[i]? = some (cliP c d C)) (hn : C.asked.length ≤ 1000000) :
    Calls Tryz.prog 21 #[.pointer (some ⟨c, 0, none⟩)] w (CloneS H0 H w0 X (cliP c d C :: ps.eraseIdx i) C.asked) := by
  obtain ⟨k, A1, n1, A2, n2, S1⟩ := openCli S i hi
  have c4 : w.cell? ⟨c, 4, none⟩ = some (.slice A2 C.asked.length n2) := S1.cell 3 rfl rfl
  have HC := Lib.hid (cloneS_any S1 1 A2 n2 C.asked rfl hn)
  clear S S1
  go_enter Tryz.func21, Tryz.ntmps21
  go_wp2_with fail
  refine HC.out.mono ?_
  rintro e w1 ⟨A, n, rfl, S2⟩
  have HS2 := Lib.hid ((shutCli (((((S2.pick 4 rfl).pick 4 rfl).pick 4 rfl).pick 4 rfl))).pick 1 rfl)
  clear S2 HC c4
  go_wp2_with fail
  go_ret
  exact ⟨A, n, rfl, HS2.out⟩
end
end Go.Proofs.YtdnpobjokajigaaGreatDoor
