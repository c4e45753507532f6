/-
  A row of structs, sorted: what the library's contract leaves, as a part of memory.
-/
import Derived.Test.YtfphlkkhpccpnaaK
import Derived.Shelf.SlSortCmp.WholeK
namespace Go.Proofs.Ytfphlkkhpccpnaa.K
open Go.RowKit Go.Sort
section
variable {α : Type} [Inhabited α] {enc : α → List Value} {k : Nat}
theorem flatK_list (hk : ∀ x, (enc x).length = k) (d : Array α) : (flatK enc k d).toList = d.toList.flatMap enc := by
  apply List.ext_getElem?
  intro t
  by_cases ht : t < d.size * k
  · have k0 : 0 < k := by rcases Nat.eq_zero_or_pos k with h | h; · subst h; simp at ht
                          · exact h
    have hq : t / k < d.size := (Nat.div_lt_iff_lt_mul k0).2 ht
    have hr : t % k < k := Nat.mod_lt _ k0
    have e1 : d.toList[t / k]? = some d[t / k]! := by rw [getElem!_pos d (t / k) hq]; simp [hq]
    have e2 := flat_get hk (l := d.toList) (i := t / k) (j := t % k) e1 hr
    rw [show t / k * k + t % k = t by rw [Nat.mul_comm]; exact Nat.div_add_mod t k] at e2
    rw [e2]
    have h3 : t < (flatK enc k d).size := by rw [size_flatK]; exact ht
    have e4 : (flatK enc k d).toList[t]? = some (flatK enc k d)[t]! := by rw [getElem!_pos _ t h3]; simp only [Array.getElem?_toList, Array.getElem?_eq_getElem h3]
    rw [e4, get_flatK enc k d t ht]
    have h5 : t % k < (enc d[t / k]!).length := by rw [hk]; exact hr
    rw [List.getElem?_eq_getElem h5, getElem!_pos (enc d[t / k]!) (t % k) h5]
  · rw [List.getElem?_eq_none (by simp; omega), List.getElem?_eq_none (by rw [flat_length hk]; simp; omega)]

variable {H0 H : Hs} {w0 w : World} {X : Nat → Prop} {ps : List Hp}
theorem St.holdsK {e n g c : Nat} {d : Array α} (h : St H0 w0 X H w ps) (i : Nat) (hi : ps[i]? = some (own e k (.slice (some ⟨g, 0, none⟩) n c) n (d.toList.flatMap enc))) (hk : ∀ x, (enc x).length = k) (hn : d.size = n) : HoldsK enc k w g 0 d := by
  intro j hj
  rw [size_flatK] at hj
  refine ⟨?_, by rw [Nat.zero_add]; exact h.ownFrozen i hi j⟩
  have h1 := h.ownCell i hi j (by rw [← hn]; exact hj)
  rw [Nat.zero_add, h1, ← flatK_list hk]
  have h3 : j < (flatK enc k d).size := by rw [size_flatK]; exact hj
  rw [getElem!_pos (flatK enc k d) j h3]
  simp only [Array.getElem?_toList, Array.getElem?_eq_getElem h3, id]
theorem St.ownLt {e size n g c : Nat} {xs : List Value} (h : St H0 w0 X H w ps) (i : Nat) (hi : ps[i]? = some (own e size (.slice (some ⟨g, 0, none⟩) n c) n xs)) : g < w.heap.size := by
  obtain ⟨F, hp, hF, _⟩ := h.step hi
  exact (hF g (hp.2 g rfl)).1
theorem St.sorted {e n g c : Nat} {xs : List Value} (h : St H0 w0 X H w ps) (i : Nat) (hi : ps[i]? = some (own e k (.slice (some ⟨g, 0, none⟩) n c) n xs)) (hk : ∀ x, (enc x).length = k) (d' : Array α) (hs : d'.size = n) (m : Nat) (os : Array Obj) :
    St H0 w0 X H (sortWorldK enc k w g 0 m d' os) (own e k (.slice (some ⟨g, 0, none⟩) n c) n (d'.toList.flatMap enc) :: ps.eraseIdx i) := by
  obtain ⟨F, hp, hF, kk⟩ := h.step hi
  rcases hp.1.2 with ⟨h1, _⟩ | ⟨g', cap, cur, h1, _, hg, hn, hc, hcs, htake⟩
  · cases h1
  cases h1
  have hFg : F g := hp.2 g rfl
  have hlt := (hF g hFg).1
  have hw1 : ∀ b, b < w.heap.size → (sortWorldK enc k w g 0 m d' os).heap[b]? = (mapBlock w g (putCells id 0 (flatK enc k d'))).heap[b]? := by
    intro b hb
    show ((mapBlock (Sort.ahead w m) g (putCells id 0 (flatK enc k d'))).heap ++ os)[b]? = _
    rw [Array.getElem?_append_left (by simp [mapBlock, Sort.ahead]; exact hb)]
    rfl
  have hgb : (sortWorldK enc k w g 0 m d' os).heap[g]? = some (.cells (putCells id 0 (flatK enc k d') cur) e (0, 0)) := by
    rw [hw1 g hlt]
    simp only [mapBlock, Array.getElem?_modify, if_true, hg, Option.map_some, onCells]
  have hob : ∀ b, b < w.heap.size → b ≠ g → (sortWorldK enc k w g 0 m d' os).heap[b]? = w.heap[b]? := by
    intro b hb hne
    rw [hw1 b hb]
    simp only [mapBlock, Array.getElem?_modify, if_neg (Ne.symm hne)]
  have hsz : w.heap.size ≤ (sortWorldK enc k w g 0 m d' os).heap.size := by
    show _ ≤ ((mapBlock (Sort.ahead w m) g (putCells id 0 (flatK enc k d'))).heap ++ os).size
    rw [Array.size_append]
    simp [mapBlock, Sort.ahead]
  have hfl : (d'.toList.flatMap enc).length = n * k := by rw [flat_length hk]; simp [hs]
  refine kk H (sortWorldK enc k w g 0 m d' os) [own e k (.slice (some ⟨g, 0, none⟩) n c) n (d'.toList.flatMap enc)] ⟨rfl, rfl, rfl, hsz, fun b hb hX => hob b hb fun e => hX (e ▸ hFg), Le.refl _, fun _ _ h => .inl h, fun b o hb => ?_, F, none_, ⟨⟨hfl, .inr ⟨g, c, _, rfl, Nat.zero_le _, hgb, hn, hc, ?_, ?_⟩⟩, hp.2⟩, fun b hb => ⟨Nat.lt_of_lt_of_le (hF b hb).1 hsz, .inr hb, (hF b hb).2⟩, fun _ h => h.elim, fun _ _ h => h, trivial⟩
  · have h2 := h.ag b o hb
    refine (hob b (Array.getElem?_eq_some_iff.1 h2).1 fun e => ?_).trans h2
    rw [e, (hF g hFg).2] at hb
    cases hb
  · simp [putCells, hcs]
  · rw [← flatK_list hk]
    apply List.ext_getElem?
    intro t
    have hcn : n * k ≤ cur.size := by rw [hcs]; exact Nat.mul_le_mul_right k hn
    by_cases ht : t < n * k
    · have h3 : t < (flatK enc k d').size := by rw [size_flatK, hs]; exact ht
      rw [List.getElem?_take, if_pos ht]
      have hc2 : t < cur.size := by omega
      simp only [putCells, Array.getElem?_toList, Array.getElem?_mapIdx, Array.getElem?_eq_getElem hc2, Option.map_some, Nat.zero_le, true_and, Nat.zero_add, h3, if_true, id, Nat.sub_zero, Array.getElem?_eq_getElem h3, getElem!_pos (flatK enc k d') t h3]
    · rw [List.getElem?_take, if_neg ht, List.getElem?_eq_none (by simp [hs]; omega)]
end
end Go.Proofs.Ytfphlkkhpccpnaa.K
