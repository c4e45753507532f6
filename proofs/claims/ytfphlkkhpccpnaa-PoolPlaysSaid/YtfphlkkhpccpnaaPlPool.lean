/-
  What waits, and the document's row of it, rising: plain.
-/
import Derived.Test.YtfphlkkhpccpnaaA19
namespace Go.Proofs.Ytfphlkkhpccpnaa
open Go.RowKit Go.Proofs K
set_option linter.unusedVariables false

/-- The two tell of the same transactions; the row rises. -/
structure Alike (l : List TxS) (d : List El) : Prop where
  perm : (d.map (·.1)).Perm l
  rise : d.Pairwise fun a b => ltT a.1 b.1
theorem Alike.nil : Alike [] [] := ⟨.refl _, .nil⟩
theorem Alike.len {l : List TxS} {d : List El} (h : Alike l d) : l.length = d.length := by rw [← h.perm.length_eq, List.length_map]
/-- A key as a transaction. -/
def keyT (f : ByteArray) (n : Int) : TxS := { tx0 with frm := f, nonce := n }
theorem stop_iff {f : ByteArray} {n : Int} {x : El} : stopB f n x = false ↔ ltT x.1 (keyT f n) := by
  unfold stopB ltT keyT
  constructor
  · intro h
    simp only [Bool.or_eq_false_iff, Bool.and_eq_false_iff, decide_eq_false_iff_not] at h
    obtain ⟨h1, h2⟩ := h
    by_cases he : x.1.frm = f
    · right
      refine ⟨he, ?_⟩
      rcases h2 with h2 | h2
      · exact absurd he h2
      · show x.1.nonce < n; omega
    · left
      cases h3 : ltB x.1.frm f with
      | true => rfl
      | false => exact absurd (list_inj (bl_total _ _ h3 h1)) he
  · rintro (h | ⟨he, hn⟩)
    · have h' : ltB x.1.frm f = true := h
      have h1 := ltB_asym h'
      have hne : ¬ x.1.frm = f := fun e => by rw [e, ltB_irrefl] at h'; cases h'
      simp [h1, hne]
    · have he' : x.1.frm = f := he
      have hn' : x.1.nonce < n := hn
      simp only [he', ltB_irrefl, Bool.false_or, Bool.and_eq_false_iff, decide_eq_false_iff_not]
      right
      omega
theorem at_iff {f : ByteArray} {n : Int} {x : El} : atB f n x = isKey (f, n) x.1 := by
  unfold atB isKey
  rw [Bool.eq_iff_iff]
  simp [Prod.ext_iff]
theorem key_of {k : ByteArray × Int} {t : TxS} (h : isKey k t = true) : t.frm = k.1 ∧ t.nonce = k.2 := by
  simp only [isKey, decide_eq_true_eq] at h
  rw [← h]
  exact ⟨rfl, rfl⟩
theorem ltT_key {x y : TxS} {f : ByteArray} {n : Int} (h : isKey (f, n) y = true) : ltT x y ↔ ltT x (keyT f n) := by
  obtain ⟨h1, h2⟩ := key_of h
  unfold ltT keyT
  rw [h1, h2]
theorem ltT_key2 {x y : TxS} {f : ByteArray} {n : Int} (h : isKey (f, n) x = true) : ltT x y ↔ ltT (keyT f n) y := by
  obtain ⟨h1, h2⟩ := key_of h
  unfold ltT keyT
  rw [h1, h2]
theorem key_none {x : TxS} {f : ByteArray} {n : Int} (h1 : ¬ ltT x (keyT f n)) (h2 : ¬ ltT (keyT f n) x) : isKey (f, n) x = true := by
  rcases ltT_tri x (keyT f n) with h | h | h
  · exact absurd h h1
  · simp only [isKey, decide_eq_true_eq]
    exact Prod.ext h.1 h.2
  · exact absurd h h2
theorem key_lt {x : TxS} {f : ByteArray} {n : Int} (h : isKey (f, n) x = true) : ¬ ltT x (keyT f n) ∧ ¬ ltT (keyT f n) x := by
  constructor
  · rw [ltT_key2 h]; exact ltT_irrefl _
  · intro h2
    exact ltT_irrefl _ ((ltT_key h).1 h2)
/-- Where a key is in a rising row. -/
theorem has_cons (x : El) (d : List El) (f : ByteArray) (n : Int) : fhas (x :: d) f n = if stopB f n x = true then atB f n x else fhas d f n := by
  unfold fhas
  rw [fidx_cons]
  by_cases h : stopB f n x = true
  · rw [if_pos h, if_pos h]
    rfl
  · rw [if_neg h, if_neg h]
    rfl
theorem fhas_find : ∀ {d : List El}, d.Pairwise (fun a b => ltT a.1 b.1) → ∀ (f : ByteArray) (n : Int), fhas d f n = ((d.map (·.1)).find? (isKey (f, n))).isSome
  | [], _, f, n => rfl
  | x :: d, h, f, n => by
    rw [List.pairwise_cons] at h
    rw [has_cons, List.map_cons, List.find?_cons, at_iff]
    by_cases hs : stopB f n x = true
    · rw [if_pos hs]
      cases hk : isKey (f, n) x.1 with
      | true => rfl
      | false =>
        symm
        show Option.isSome _ = false
        rw [Option.isSome_eq_false_iff, Option.isNone_iff_eq_none, List.find?_eq_none]
        intro y hy hky
        obtain ⟨z, hz, rfl⟩ := List.mem_map.1 hy
        have h1 := h.1 z hz
        rw [ltT_key hky] at h1
        rw [stop_iff.2 h1] at hs
        cases hs
    · have hs' : stopB f n x = false := by simpa using hs
      rw [if_neg hs]
      have h1 := stop_iff.1 hs'
      cases hk : isKey (f, n) x.1 with
      | true => exact absurd h1 (key_lt hk).1
      | false => exact fhas_find h.2 f n
theorem find_perm {l l' : List TxS} (h : l.Perm l') (hn : (l.map fun t => (t.frm, t.nonce)).Nodup) (k : ByteArray × Int) : l.find? (isKey k) = l'.find? (isKey k) := by
  have key : ∀ {l : List TxS} {t : TxS}, (l.map fun t => (t.frm, t.nonce)).Nodup → t ∈ l → isKey k t = true → l.find? (isKey k) = some t := by
    intro l
    induction l with
    | nil => intro t _ h; cases h
    | cons x l ih =>
      intro t hn ht hk
      rw [List.map_cons, List.nodup_cons] at hn
      rw [List.find?_cons]
      rcases List.mem_cons.1 ht with rfl | ht
      · rw [hk]
      · cases hx : isKey k x with
        | true =>
          exfalso
          apply hn.1
          simp only [isKey, decide_eq_true_eq] at hx hk
          exact List.mem_map.2 ⟨t, ht, by rw [hx, hk]⟩
        | false => exact ih hn.2 ht hk
  have hn' : (l'.map fun t => (t.frm, t.nonce)).Nodup := (h.map _).nodup_iff.1 hn
  cases h1 : l.find? (isKey k) with
  | some t =>
    have hm := List.mem_of_find?_eq_some h1
    have hk := List.find?_some h1
    exact (key hn' (h.mem_iff.1 hm) hk).symm
  | none =>
    symm
    rw [List.find?_eq_none] at h1 ⊢
    intro x hx
    exact h1 x (h.mem_iff.2 hx)
theorem rise_nodup : ∀ {d : List El}, d.Pairwise (fun a b => ltT a.1 b.1) → ((d.map (·.1)).map fun t => (t.frm, t.nonce)).Nodup
  | [], _ => by simp
  | x :: d, h => by
    rw [List.pairwise_cons] at h
    rw [List.map_cons, List.map_cons, List.nodup_cons]
    refine ⟨fun hm => ?_, rise_nodup h.2⟩
    obtain ⟨t, ht, he⟩ := List.mem_map.1 hm
    obtain ⟨z, hz, rfl⟩ := List.mem_map.1 ht
    have h1 := h.1 z hz
    have hk : isKey (z.1.frm, z.1.nonce) x.1 = true := by
      simp only [isKey, decide_eq_true_eq]
      simp only [Prod.mk.injEq] at he
      rw [he.1, he.2]
    have hk2 : isKey (z.1.frm, z.1.nonce) z.1 = true := by simp [isKey]
    rw [ltT_key2 hk, ← ltT_key2 hk2] at h1
    exact ltT_irrefl _ h1
theorem Alike.find {l : List TxS} {d : List El} (h : Alike l d) (k : ByteArray × Int) : (d.map (·.1)).find? (isKey k) = l.find? (isKey k) := find_perm h.perm (rise_nodup h.rise) k
theorem Alike.has {l : List TxS} {d : List El} (h : Alike l d) (f : ByteArray) (n : Int) : fhas d f n = (l.find? (isKey (f, n))).isSome := by rw [fhas_find h.rise, h.find]
/-- The one that is there. -/
theorem fhas_some : ∀ {d : List El} {f : ByteArray} {n : Int}, fhas d f n = true → ∃ x, d[fidx d f n]? = some x ∧ isKey (f, n) x.1 = true
  | d, f, n, h => by
    unfold fhas at h
    cases hx : d[fidx d f n]? with
    | none => rw [hx] at h; cases h
    | some x => rw [hx] at h; exact ⟨x, rfl, by rw [← at_iff]; exact h⟩
theorem Alike.got {l : List TxS} {d : List El} (h : Alike l d) {f : ByteArray} {n : Int} (hh : fhas d f n = true) : ∃ x, d[fidx d f n]? = some x ∧ l.find? (isKey (f, n)) = some x.1 := by
  obtain ⟨x, hx, hk⟩ := fhas_some hh
  refine ⟨x, hx, ?_⟩
  rw [← h.find]
  have hm : x.1 ∈ d.map (·.1) := List.mem_map.2 ⟨x, List.mem_of_getElem? hx, rfl⟩
  cases hf : (d.map (·.1)).find? (isKey (f, n)) with
  | none => exact absurd hk (List.find?_eq_none.1 hf _ hm)
  | some y =>
    have hy := List.find?_some hf
    have hym := List.mem_of_find?_eq_some hf
    obtain ⟨z, hz, rfl⟩ := List.mem_map.1 hym
    -- both have the key: the same
    have hd := rise_nodup h.rise
    congr 1
    have e1 := key_of hk
    have e2 := key_of hy
    obtain ⟨i, hi, hi'⟩ := List.getElem_of_mem (List.mem_of_getElem? hx)
    obtain ⟨j, hj, hj'⟩ := List.getElem_of_mem hz
    have hij : i = j := by
      rcases Nat.lt_trichotomy i j with hlt | he | hlt
      · have := List.pairwise_iff_getElem.1 h.rise i j hi hj hlt
        rw [hi', hj', ltT_key2 hk, ← ltT_key2 hy] at this
        exact absurd this (ltT_irrefl _)
      · exact he
      · have := List.pairwise_iff_getElem.1 h.rise j i hj hi hlt
        rw [hi', hj', ltT_key2 hy, ← ltT_key2 hk] at this
        exact absurd this (ltT_irrefl _)
    subst hij
    rw [← hi', ← hj']
/-- What stands ahead of a place is below the key, what is there and behind is not. -/
theorem fidx_below : ∀ {d : List El} {f : ByteArray} {n : Int}, ∀ x ∈ d.take (fidx d f n), ltT x.1 (keyT f n)
  | [], f, n, x, hx => by simp at hx
  | y :: d, f, n, x, hx => by
    rw [fidx_cons] at hx
    split at hx
    · simp at hx
    · rename_i hs
      rw [List.take_succ_cons] at hx
      rcases List.mem_cons.1 hx with rfl | hx
      · exact stop_iff.1 (by simpa using hs)
      · exact fidx_below x hx
theorem fidx_above : ∀ {d : List El} {f : ByteArray} {n : Int}, d.Pairwise (fun a b => ltT a.1 b.1) → ∀ x ∈ d.drop (fidx d f n), ¬ ltT x.1 (keyT f n)
  | [], f, n, _, x, hx => by simp at hx
  | y :: d, f, n, h, x, hx => by
    rw [List.pairwise_cons] at h
    rw [fidx_cons] at hx
    split at hx
    · rename_i hs
      have hy : ¬ ltT y.1 (keyT f n) := fun hl => by rw [stop_iff.2 hl] at hs; cases hs
      rw [List.drop_zero] at hx
      rcases List.mem_cons.1 hx with rfl | hx
      · exact hy
      · exact fun hl => hy (ltT_trans (h.1 x hx) hl)
    · rw [List.drop_succ_cons] at hx
      exact fidx_above h.2 x hx
theorem erase_perm {l : List TxS} {k : ByteArray × Int} {t : TxS} (h : l.find? (isKey k) = some t) : (t :: delT l k).Perm l := by
  induction l with
  | nil => cases h
  | cons x l ih =>
    rw [List.find?_cons] at h
    rw [del_cons]
    cases hx : isKey k x with
    | true =>
      rw [hx] at h
      cases h
      rw [if_pos rfl]
    | false =>
      rw [hx] at h
      rw [if_neg (by decide)]
      exact (List.Perm.swap x t _).trans ((ih h).cons x)
theorem take_drop_perm {d : List El} {k : Nat} {x : El} (h : d[k]? = some x) : (x :: (d.take k ++ d.drop (k + 1))).Perm d := by
  obtain ⟨hlt, rfl⟩ := List.getElem?_eq_some_iff.1 h
  have e : d = d.take k ++ d[k] :: d.drop (k + 1) := by rw [← List.drop_eq_getElem_cons hlt, List.take_append_drop]
  conv => rhs; rw [e]
  exact List.perm_middle.symm
theorem Alike.del {l : List TxS} {d : List El} (h : Alike l d) (f : ByteArray) (n : Int) : Alike (delT l (f, n)) (rdel d f n) := by
  unfold rdel
  cases hh : fhas d f n with
  | false =>
    rw [if_neg (by decide), del_none]
    · exact h
    · have := h.has f n
      rw [hh] at this
      cases hf : l.find? (isKey (f, n)) with
      | none => rfl
      | some t => rw [hf] at this; cases this
  | true =>
    rw [if_pos rfl]
    obtain ⟨x, hx, hf⟩ := h.got hh
    refine ⟨?_, ?_⟩
    · have h1 := (take_drop_perm hx).map (·.1)
      rw [List.map_cons] at h1
      exact ((h1.trans h.perm).trans (erase_perm hf).symm).cons_inv
    · have hs : (d.take (fidx d f n) ++ d.drop (fidx d f n + 1)).Sublist d := by
        conv => rhs; rw [← List.take_append_drop (fidx d f n) d]
        exact (List.Sublist.refl _).append (List.drop_sublist_drop_left d (by omega))
      exact h.rise.sublist hs
theorem Alike.addE {l : List TxS} {d : List El} (h : Alike l d) (t : TxS) : raddE d t = addE l t := by
  unfold raddE Go.Proofs.Ytfphlkkhpccpnaa.addE
  rw [h.has, h.len]
theorem Alike.add {l : List TxS} {d : List El} (h : Alike l d) (x : El) : Alike (addL l x.1) (raddL d x) := by
  have he := h.addE x.1
  unfold raddL addL
  rw [he]
  by_cases h0 : Go.Proofs.Ytfphlkkhpccpnaa.addE l x.1 = 0
  · rw [if_pos h0, if_pos h0]
    have hno : fhas d x.1.frm x.1.nonce = false := by
      cases hh : fhas d x.1.frm x.1.nonce with
      | false => rfl
      | true =>
        exfalso
        rw [← he] at h0
        unfold raddE at h0
        rw [hh] at h0
        split at h0
        · cases h0
        · simp at h0
    have hk : isKey (x.1.frm, x.1.nonce) x.1 = true := by simp [isKey]
    have hnone : ∀ y ∈ d, isKey (x.1.frm, x.1.nonce) y.1 = false := by
      intro y hy
      have h1 := fhas_find h.rise x.1.frm x.1.nonce
      rw [hno] at h1
      have h2 : (d.map (·.1)).find? (isKey (x.1.frm, x.1.nonce)) = none := by
        cases hf : (d.map (·.1)).find? (isKey (x.1.frm, x.1.nonce)) with
        | none => rfl
        | some t => rw [hf] at h1; cases h1
      have h3 := List.find?_eq_none.1 h2 y.1 (List.mem_map.2 ⟨y, hy, rfl⟩)
      simpa using h3
    refine ⟨?_, ?_⟩
    · have h1 : (d.take (fidx d x.1.frm x.1.nonce) ++ ([x] ++ d.drop (fidx d x.1.frm x.1.nonce))).Perm (d ++ [x]) := by
        have h2 : (d.take (fidx d x.1.frm x.1.nonce) ++ x :: d.drop (fidx d x.1.frm x.1.nonce)).Perm (x :: d) := by
          have := List.perm_middle (a := x) (l₁ := d.take (fidx d x.1.frm x.1.nonce)) (l₂ := d.drop (fidx d x.1.frm x.1.nonce))
          rwa [List.take_append_drop] at this
        exact h2.trans (List.perm_append_singleton x d).symm
      refine (h1.map (·.1)).trans ?_
      rw [List.map_append]
      exact h.perm.append_right _
    · rw [List.pairwise_append]
      refine ⟨h.rise.sublist (List.take_sublist _ _), ?_, ?_⟩
      · rw [List.singleton_append, List.pairwise_cons]
        refine ⟨fun y hy => ?_, h.rise.sublist (List.drop_sublist _ _)⟩
        have h1 := fidx_above h.rise y hy
        have h2 := hnone y (List.mem_of_mem_drop hy)
        rw [ltT_key2 hk]
        rcases ltT_tri y.1 (keyT x.1.frm x.1.nonce) with h3 | h3 | h3
        · exact absurd h3 h1
        · exfalso
          have : isKey (x.1.frm, x.1.nonce) y.1 = true := by simp only [isKey, decide_eq_true_eq]; exact Prod.ext h3.1 h3.2
          rw [h2] at this
          cases this
        · exact h3
      · intro a ha b hb
        have h1 := fidx_below a ha
        rw [List.singleton_append] at hb
        rcases List.mem_cons.1 hb with rfl | hb
        · rw [ltT_key hk]; exact h1
        · have h2 := fidx_above h.rise b hb
          have h3 : ¬ ltT b.1 a.1 := fun hl => h2 (ltT_trans hl h1)
          rcases ltT_tri a.1 b.1 with h4 | h4 | h4
          · exact h4
          · exfalso
            refine h2 ?_
            have hka : isKey (b.1.frm, b.1.nonce) a.1 = true := by simp only [isKey, decide_eq_true_eq]; exact Prod.ext h4.1 h4.2
            have hkb : isKey (b.1.frm, b.1.nonce) b.1 = true := by simp [isKey]
            rw [ltT_key2 hka, ← ltT_key2 hkb] at h1
            exact h1
          · exact absurd h4 h3
  · rw [if_neg h0, if_neg h0]
    exact h
/-- A rising row is the only one of its transactions. -/
theorem Alike.same {l l' : List TxS} {d : List El} (h : Alike l d) (hp : l'.Perm l) (hs : l'.Pairwise fun a b => ¬ ltT b a) : l' = d.map (·.1) := by
  have hp2 : l'.Perm (d.map (·.1)) := hp.trans h.perm.symm
  have hr : (d.map (·.1)).Pairwise ltT := by
    rw [List.pairwise_map]
    exact h.rise
  clear h hp
  generalize d.map (·.1) = m at hp2 hr
  induction m generalizing l' with
  | nil => exact hp2.eq_nil
  | cons x m ih =>
    rw [List.pairwise_cons] at hr
    cases l' with
    | nil => exact absurd hp2.symm.eq_nil (by simp)
    | cons y l' =>
      rw [List.pairwise_cons] at hs
      have hxy : y = x := by
        have h1 : y ∈ x :: m := hp2.mem_iff.1 (by simp)
        have h2 : x ∈ y :: l' := hp2.mem_iff.2 (by simp)
        rcases List.mem_cons.1 h1 with e | h1
        · exact e
        · rcases List.mem_cons.1 h2 with e | h2
          · exact e.symm
          · exact absurd (hr.1 y h1) (hs.1 x h2)
      subst hxy
      rw [ih hs.2 hp2.cons_inv hr.2]
end Go.Proofs.Ytfphlkkhpccpnaa
