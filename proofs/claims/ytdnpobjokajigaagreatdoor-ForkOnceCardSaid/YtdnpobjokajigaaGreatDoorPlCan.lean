/-
  What is read was written: plain.
-/
import Derived.Test.YtdnpobjokajigaaGreatDoorR08g

namespace Go.Proofs.YtdnpobjokajigaaGreatDoor
open Go.RowKit Go.Proofs K
set_option linter.unusedVariables false

theorem small_canon {s : ByteArray} (h : smallOk s = true) : numL (smallR s) = s.data.toList := by
  have h' := h
  simp only [smallOk, Bool.and_eq_true, decide_eq_true_eq, Bool.not_eq_true'] at h
  have hl : s.data.toList.length ≤ 8 := by rw [sizeL]; exact h.1
  have hv : valN s.data.toList < 18446744073709551616 := Nat.lt_of_lt_of_le (valN_lt hl) (Nat.le_trans (Nat.pow_le_pow_right (by decide) hl) (by decide))
  unfold smallR
  rw [if_pos h', smallV_val hl, ← bytesN_num hv, bytesN_val _ _ (Nat.le_refl _) (clean_of h.2)]
theorem num_canon {s : ByteArray} (h : smallOk s = true) : numS (smallR s) = s := by
  unfold numS
  rw [small_canon h]
theorem many_canon {base f : Nat} {b : UInt8} (hb : b.toNat = base + f) {l r : List UInt8} {n : Nat} (h : manyL f l = some (n, r)) : b :: l = aheadL base n ++ r := by
  have hbb : b = UInt8.ofNat (base + f) := by rw [← hb]; simp
  unfold manyL at h
  split at h
  · rename_i hf
    cases h
    unfold aheadL
    rw [if_pos hf, ← hbb]
    rfl
  · rename_i hf
    split at h
    · rename_i hl
      simp only at h
      split at h
      · rename_i h3
        cases h
        have e := small_canon h3.1
        unfold aheadL
        rw [if_neg (by omega), Int.toNat_of_nonneg (by omega), e]
        simp only [List.length_take, Nat.min_eq_left hl]
        rw [show base + 55 + (f - 55) = base + f by omega, ← hbb, List.cons_append, List.take_append_drop]
      · cases h
    · cases h
theorem enc_text {l : List UInt8} (h : ∀ c, l = [c] → ¬ c.toNat < 128) : (It.text ⟨l.toArray⟩).enc = aheadL 128 l.length ++ l := by
  rw [It.enc]
  unfold textL
  match l, h with
  | [], _ => rfl
  | [c], h =>
    simp only
    rw [if_neg (fun h2 => h c rfl ((lt128 c).1 h2))]
    rfl
  | a :: b :: t, _ => rfl
theorem many_one {f : Nat} {l r : List UInt8} (h : manyL f l = some (1, r)) : f = 1 := by
  unfold manyL at h
  split at h
  · simp only [Option.some.injEq, Prod.mk.injEq] at h
    exact h.1
  · split at h
    · simp only at h
      split at h
      · rename_i h3
        simp only [Option.some.injEq, Prod.mk.injEq] at h
        have h1 := h.1
        have h2 := h3.2.1
        omega
      · cases h
    · cases h
set_option maxRecDepth 100000 in
mutual
theorem RdI.canon : ∀ {d : Nat} {l : List UInt8} {o : Option (It × List UInt8)}, RdI d l o → ∀ {i : It} {r : List UInt8}, o = some (i, r) → l = i.enc ++ r
  | _, _, _, .deep _, _, _, h => by cases h
  | _, _, _, .nil, _, _, h => by cases h
  | _, _, _, .one (b := b) hd hb, _, _, h => by
    cases h
    rw [It.enc]
    unfold textL
    simp only
    rw [if_pos ((lt128 b).2 hb)]
    rfl
  | _, _, _, .many .., _, _, h => by cases h
  | _, _, _, .cut .., _, _, h => by cases h
  | _, _, _, .bad .., _, _, h => by cases h
  | _, _, _, .text (b := b) (r2 := r2) (n := n) hd hb hb2 hm hn ht, _, _, h => by
    cases h
    rw [many_canon (base := 128) (by omega) hm, enc_text, List.append_assoc, List.take_append_drop, List.length_take, Nat.min_eq_left hn]
    intro c hc h1
    refine ht c hc h1 ?_
    have hn1 : n = 1 := by
      have := congrArg List.length hc
      rw [List.length_take, Nat.min_eq_left hn] at this
      exact this
    subst hn1
    have := many_one hm
    omega
  | _, _, _, .manyL .., _, _, h => by cases h
  | _, _, _, .cutL .., _, _, h => by cases h
  | _, _, _, .badL .., _, _, h => by cases h
  | _, _, _, .list (r2 := r2) (n := n) hd hb hm hn hl, _, _, h => by
    cases h
    rw [many_canon (base := 192) (by omega) hm, It.enc, ← RdL.canon hl rfl, List.append_assoc, List.take_append_drop, List.length_take, Nat.min_eq_left hn]
theorem RdL.canon : ∀ {d : Nat} {l : List UInt8} {o : Option (List It)}, RdL d l o → ∀ {k : List It}, o = some k → l = encL k
  | _, _, _, .nil, _, h => by cases h; rfl
  | _, _, _, .bad .., _, h => by cases h
  | _, _, _, .step (o := o) hl hi ht, _, h => by
    cases o with
    | none => cases h
    | some k =>
      cases h
      rw [encL, RdI.canon hi rfl, RdL.canon ht rfl]
end
theorem dec_canon {l : List UInt8} {i : It} (h : DecR l (some i)) : l = i.enc := by
  cases h with
  | good h hr => rw [RdI.canon hr rfl, List.append_nil]
theorem byte8 (f : Nat → Nat) (hf : ∀ j, f j < 256) : ∃ n, n < 18446744073709551616 ∧ ∀ j, j < 8 → f j = n / 2 ^ (j * 8) % 256 := by
  refine ⟨f 0 + f 1 * 256 + f 2 * 65536 + f 3 * 16777216 + f 4 * 4294967296 + f 5 * 1099511627776 + f 6 * 281474976710656 + f 7 * 72057594037927936, ?_, fun j hj => ?_⟩
  · have h0 := hf 0; have h1 := hf 1; have h2 := hf 2; have h3 := hf 3; have h4 := hf 4; have h5 := hf 5; have h6 := hf 6; have h7 := hf 7
    omega
  · have h0 := hf 0; have h1 := hf 1; have h2 := hf 2; have h3 := hf 3; have h4 := hf 4; have h5 := hf 5; have h6 := hf 6; have h7 := hf 7
    rcases (by omega : j = 0 ∨ j = 1 ∨ j = 2 ∨ j = 3 ∨ j = 4 ∨ j = 5 ∨ j = 6 ∨ j = 7) with e | e | e | e | e | e | e | e <;> subst e <;> simp only [Nat.zero_mul, Nat.one_mul, Nat.reduceMul, Nat.reducePow, Nat.pow_zero] <;> omega
theorem of_word {s : ByteArray} (hs : s.size = 32) : wordS (ofL s s.size 3) (ofL s s.size 2) (ofL s s.size 1) (ofL s s.size 0) = s := by
  have hf : ∀ i, ∃ n, n < 18446744073709551616 ∧ ∀ j, j < 8 → (s.data.toList.getD (31 - (8 * i + j)) 0).toNat = n / 2 ^ (j * 8) % 256 := fun i => byte8 (fun j => (s.data.toList.getD (31 - (8 * i + j)) 0).toNat) fun j => UInt8.toNat_lt _
  obtain ⟨L, hL⟩ : ∃ L : Nat → Nat, ∀ i, L i < 18446744073709551616 ∧ ∀ j, j < 8 → (s.data.toList.getD (31 - (8 * i + j)) 0).toNat = L i / 2 ^ (j * 8) % 256 := ⟨fun i => (hf i).choose, fun i => (hf i).choose_spec⟩
  clear hf
  have hlow : ∀ k, k < 32 → lowB s k = ((L (k / 8) / 2 ^ (k % 8 * 8) % 256 : Nat) : Int) := fun k hk => by
    unfold lowB
    rw [hs, ← (hL (k / 8)).2 (k % 8) (Nat.mod_lt _ (by decide)), show 8 * (k / 8) + k % 8 = k by omega]
  have key : ∀ i, i < 4 → ofL s 32 i = (L i : Int) := fun i hi => by
    rw [of_part (fun i => (hL i).1) 32 hlow 32 i (by omega), show min (32 - 8 * i) 8 = 8 by omega, Nat.mod_eq_of_lt (by have := (hL i).1; simpa using this)]
  rw [hs, key 3 (by omega), key 2 (by omega), key 1 (by omega), key 0 (by omega)]
  have hlim : ∀ q, q < 4 → lim (L 3) (L 2) (L 1) (L 0) q = (L q : Int) := fun q hq => by
    rcases (by omega : q = 0 ∨ q = 1 ∨ q = 2 ∨ q = 3) with e | e | e | e <;> subst e <;> rfl
  have e1 : (wordS (L 3) (L 2) (L 1) (L 0)).data.toList = (wordL (L 3) (L 2) (L 1) (L 0)).map fun x => UInt8.ofNat x.toNat := by simp [wordS, strOfNums]
  refine ByteArray.ext (Array.toList_inj.1 ?_)
  rw [e1]
  refine List.ext_getElem (by rw [sizeL, hs]; simp [wordL]) fun j h1 h2 => ?_
  have hj : j < 32 := by rw [sizeL, hs] at h2; exact h2
  have e2 : (wordL (L 3) (L 2) (L 1) (L 0))[j]'(by simpa [wordL] using hj) = lowB s (31 - j) := by
    simp only [wordL, List.getElem_map, List.getElem_range]
    unfold wbyte
    rw [hlim _ (by omega), hlow _ (by omega)]
    simp
  rw [List.getElem_map, e2]
  unfold lowB
  rw [hs, show 32 - 1 - (31 - j) = j by omega, List.getD_eq_getElem?_getD, List.getElem?_eq_getElem h2]
  simp
/-- What an account's reply is read of. -/
theorem reply_canon {kind : Int} {k : List It} {r : Array Value} (h : replyR kind k = some (r, [])) :
    (kind = 2 ∧ ∃ id a b c d, W64 id ∧ W64 a ∧ W64 b ∧ W64 c ∧ W64 d ∧ k = [numS id, wordS a b c d].map It.text ∧ r = replyC id 0 0 0 0 0 ⟨#[]⟩ a b c d) ∨
    (kind ≠ 2 ∧ ∃ id n a b c d code, W64 id ∧ W64 n ∧ W64 a ∧ W64 b ∧ W64 c ∧ W64 d ∧ code.size ≤ 24576 ∧ k = [numS id, numS n, wordS a b c d, code].map It.text ∧ r = replyC id n a b c d code 0 0 0 0) := by
  have hnum : ∀ {k r : List It} {x : Int}, numR k = some (x, r) → W64 x ∧ k = .text (numS x) :: r := by
    intro k r x h
    unfold numR at h
    split at h
    · split at h
      · rename_i hs
        cases h
        exact ⟨smallR_bd _, by rw [num_canon hs]⟩
      · cases h
    · cases h
  have htxt : ∀ {k r : List It} {n : Int} {x : ByteArray}, txtR n k = some (x, r) → (n < 0 ∨ (x.size : Int) = n) ∧ k = .text x :: r := by
    intro k r n x h
    unfold txtR at h
    split at h
    · split at h
      · rename_i hs
        cases h
        exact ⟨hs, rfl⟩
      · cases h
    · cases h
  unfold replyR at h
  obtain ⟨⟨x, k1⟩, h1, g⟩ := Option.bind_eq_some_iff.1 h
  clear h
  obtain ⟨hx, rfl⟩ := hnum h1
  clear h1
  have h := g
  clear g
  dsimp only at h
  split at h
  · rename_i hk
    left
    refine ⟨hk, ?_⟩
    obtain ⟨⟨s, k2⟩, h2, g⟩ := Option.map_eq_some_iff.1 h
    clear h
    obtain ⟨hs, rfl⟩ := htxt h2
    simp only [Prod.mk.injEq] at g
    obtain ⟨g, rfl⟩ := g
    have hs' : s.size = 32 := by omega
    exact ⟨x, _, _, _, _, hx, ofL_bd _ _ _, ofL_bd _ _ _, ofL_bd _ _ _, ofL_bd _ _ _, by rw [of_word hs']; rfl, g.symm⟩
  · rename_i hk
    right
    refine ⟨hk, ?_⟩
    obtain ⟨⟨y, k2⟩, h2, g⟩ := Option.bind_eq_some_iff.1 h
    clear h
    obtain ⟨hy, rfl⟩ := hnum h2
    obtain ⟨⟨s, k3⟩, h3, g2⟩ := Option.bind_eq_some_iff.1 g
    clear g
    obtain ⟨hs, rfl⟩ := htxt h3
    obtain ⟨⟨t, k4⟩, h4, g3⟩ := Option.bind_eq_some_iff.1 g2
    clear g2
    obtain ⟨_, rfl⟩ := htxt h4
    dsimp only at g3
    split at g3
    · cases g3
    · rename_i hl
      simp only [Option.some.injEq, Prod.mk.injEq] at g3
      obtain ⟨g3, rfl⟩ := g3
      have hs' : s.size = 32 := by omega
      exact ⟨x, y, _, _, _, _, t, hx, hy, ofL_bd _ _ _, ofL_bd _ _ _, ofL_bd _ _ _, ofL_bd _ _ _, by omega, by rw [of_word hs']; rfl, g3.symm⟩
/-- What the program tells is a reply's bytes. -/
theorem getReply_canon {kind : Int} {l : List UInt8} {r : Array Value} (hG : ReplyG kind l (some r)) :
    (kind = 2 ∧ ∃ id a b c d, W64 id ∧ W64 a ∧ W64 b ∧ W64 c ∧ W64 d ∧ l = (replyB [numS id, wordS a b c d]).data.toList ∧ r = replyC id 0 0 0 0 0 ⟨#[]⟩ a b c d) ∨
    (kind = 1 ∧ ∃ id n a b c d code, W64 id ∧ W64 n ∧ W64 a ∧ W64 b ∧ W64 c ∧ W64 d ∧ code.size ≤ 24576 ∧ l = (replyB [numS id, numS n, wordS a b c d, code]).data.toList ∧ r = replyC id n a b c d code 0 0 0 0) := by
  have key : ∀ ts : List ByteArray, Sealed l → l.drop 4 = (It.list (ts.map It.text)).enc → l = (replyB ts).data.toList := fun ts hs hd => by
    have e1 : putL ts = bs (l.drop 4) := by rw [hd]; rfl
    rw [replyB_list, e1, hs.2]
    show l = (bs (l.take 4)).data.toList ++ (bs (l.drop 4)).data.toList
    simp [bs]
  cases hG with
  | read hs hk hD =>
    cases hD with
    | good hd ha =>
      have hdc := dec_canon hd
      rcases reply_canon ha with ⟨h2, id, a, b, c, d, b0, b1, b2, b3, b4, rfl, hr⟩ | ⟨h2, id, n, a, b, c, d, code, b0, bn, b1, b2, b3, b4, hl, rfl, hr⟩
      · exact .inl ⟨h2, id, a, b, c, d, b0, b1, b2, b3, b4, key _ hs hdc, hr⟩
      · exact .inr ⟨hk.elim (fun h => h) (fun h => absurd h h2), _, n, a, b, c, d, code, b0, bn, b1, b2, b3, b4, hl, key _ hs hdc, hr⟩
end Go.Proofs.YtdnpobjokajigaaGreatDoor
