/-
  Texts written are read; a cut, or more behind: plain.
-/
import Derived.Test.YtfphlkkhpccpnaaDoorPlRd
namespace Go.Proofs.YtfphlkkhpccpnaaDoor
open Go.RowKit Go.Proofs K

theorem numL_pos {n : Nat} (h0 : 0 < n) (h : n < 18446744073709551616) : 0 < (numL (n : Int)).length := by
  cases e : numL (n : Int) with
  | nil =>
    have := valN_num h
    rw [e] at this
    simp [valN] at this
    omega
  | cons => simp
theorem manyL_num {n : Nat} (h55 : 55 < n) (h : n ≤ 65536) (rest : List UInt8) : manyL (55 + (numL (n : Int)).length) (numL (n : Int) ++ rest) = some (n, rest) := by
  have hp := numL_pos (n := n) (by omega) (by omega)
  have hb := numS_back (n := (n : Int)) (by omega) (by omega)
  unfold manyL
  rw [if_neg (show ¬ 55 + (numL (n : Int)).length ≤ 55 by omega), if_pos (by simp)]
  simp only [Nat.add_sub_cancel_left, List.take_left, List.drop_left]
  rw [show (⟨(numL (n : Int)).toArray⟩ : ByteArray) = numS n from rfl, if_pos ⟨numL_ok _, by omega, by omega⟩, hb]
  rfl
theorem manyL_short {n : Nat} (h : n ≤ 55) (l : List UInt8) : manyL n l = some (n, l) := by unfold manyL; rw [if_pos h]
theorem ofNat_nat {n : Nat} (h : n < 256) : (UInt8.ofNat n).toNat = n := by rw [UInt8.toNat_ofNat']; omega
theorem isBad_no {b : UInt8} {l : List UInt8} (h : l.length ≠ 1) : isBad b l = false := by
  unfold isBad
  split
  · simp at h
  · rfl
theorem bytes_list {s : ByteArray} {l : List UInt8} (h : s.data.toList = l) : (⟨l.toArray⟩ : ByteArray) = s := by
  subst h
  exact ByteArray.ext (by simp)
theorem rdB_head {R : List UInt8 → Option (List It)} {d : Nat} (hd : d ≤ 64) {l : List UInt8} (hl : l.length ≤ 65536) (hn : l.length ≠ 1) (rest : List UInt8) : rdB R d (aheadL 128 l.length ++ l ++ rest) = some (.text ⟨l.toArray⟩, rest) := by
  unfold aheadL
  split
  · rename_i h
    rw [List.append_assoc, List.singleton_append, rdB_cons, if_neg (show ¬ 64 < d by omega), ofNat_nat (by omega), if_neg (by omega), if_pos (by omega), Nat.add_sub_cancel_left, manyL_short h]
    simp only [List.length_append, List.take_left, List.drop_left]
    rw [if_neg (by omega), isBad_no hn]
    rfl
  · rename_i h
    have h8 := numL_len (l.length : Int)
    have hp := numL_pos (n := l.length) (by omega) (by omega)
    rw [List.append_assoc, List.cons_append, rdB_cons, if_neg (show ¬ 64 < d by omega), ofNat_nat (by omega), if_neg (by omega), if_pos (by omega), Nat.add_assoc 128, Nat.add_sub_cancel_left, manyL_num (by omega) hl]
    simp only [List.length_append, List.take_left, List.drop_left]
    rw [if_neg (by omega), isBad_no hn]
    rfl
theorem sizeL (s : ByteArray) : s.data.toList.length = s.size := by rw [Array.length_toList]; rfl
theorem lt128 (c : UInt8) : c < 128 ↔ c.toNat < 128 := UInt8.lt_iff_toNat_lt
theorem rdB_text {R : List UInt8 → Option (List It)} {d : Nat} (hd : d ≤ 64) {s : ByteArray} (hs : s.size ≤ 65536) (rest : List UInt8) : rdB R d (textL s ++ rest) = some (.text s, rest) := by
  have hs' : s.data.toList.length ≤ 65536 := by rw [sizeL]; exact hs
  unfold textL
  split
  · rename_i c hc
    split
    · rename_i h
      rw [List.singleton_append, rdB_cons, if_neg (show ¬ 64 < d by omega), if_pos ((lt128 c).1 h), ← bytes_list hc]
    · rename_i h
      have h' : ¬ c.toNat < 128 := fun h2 => h ((lt128 c).2 h2)
      rw [show aheadL 128 1 = [UInt8.ofNat 129] from rfl, List.append_assoc, List.singleton_append, rdB_cons, if_neg (show ¬ 64 < d by omega), ofNat_nat (by omega), if_neg (by omega), if_pos (by omega), manyL_short (by omega)]
      simp only [List.singleton_append, List.length_cons]
      rw [if_neg (by omega), if_neg, ← bytes_list hc]
      · rfl
      · simp [isBad, h']
  · rename_i h
    rw [rdB_head hd hs' (fun h1 => ?_), bytes_list rfl]
    obtain ⟨c, hc⟩ := List.length_eq_one_iff.1 h1
    exact h c hc
theorem rdB_list {R : List UInt8 → Option (List It)} {d : Nat} (hd : d ≤ 64) {l : List UInt8} {k : List It} (hl : l.length ≤ 65536) (hR : R l = some k) (rest : List UInt8) : rdB R d (aheadL 192 l.length ++ l ++ rest) = some (.list k, rest) := by
  unfold aheadL
  split
  · rename_i h
    rw [List.append_assoc, List.singleton_append, rdB_cons, if_neg (show ¬ 64 < d by omega), ofNat_nat (by omega), if_neg (by omega), if_neg (by omega), Nat.add_sub_cancel_left, manyL_short h]
    simp only [List.length_append, List.take_left, List.drop_left]
    rw [if_neg (by omega), hR]
  · rename_i h
    have h8 := numL_len (l.length : Int)
    have hp := numL_pos (n := l.length) (by omega) (by omega)
    rw [List.append_assoc, List.cons_append, rdB_cons, if_neg (show ¬ 64 < d by omega), ofNat_nat (by omega), if_neg (by omega), if_neg (by omega), Nat.add_assoc 192, Nat.add_sub_cancel_left, manyL_num (by omega) hl]
    simp only [List.length_append, List.take_left, List.drop_left]
    rw [if_neg (by omega), hR]
theorem textL_pos (s : ByteArray) : 0 < (textL s).length := by
  unfold textL
  split
  · split <;> simp
  · unfold aheadL; split <;> simp
theorem textL_ge (s : ByteArray) : s.size ≤ (textL s).length := by
  have : s.size = s.data.toList.length := (sizeL s).symm
  unfold textL
  split
  · rename_i c hc; rw [this, hc]; split <;> (first | exact Nat.le_refl _ | (rw [List.length_append]; exact Nat.le_add_left _ _))
  · simp
theorem rdLg_texts {f d : Nat} (hd : d ≤ 64) : ∀ (ts : List ByteArray) (g : Nat), (encL (ts.map It.text)).length ≤ g → (encL (ts.map It.text)).length ≤ 65536 → rdLg (rdF (f + 1) d) g (encL (ts.map It.text)) = some (ts.map It.text)
  | [], g, _, _ => by cases g <;> simp [encL, rdLg]
  | s :: ts, g, hg, hl => by
    rw [List.map_cons, encL, It.enc] at hg hl ⊢
    have hp := textL_pos s
    have hge := textL_ge s
    rw [List.length_append] at hg hl
    cases g with
    | zero => omega
    | succ g =>
      have hne : textL s ++ encL (ts.map It.text) ≠ [] := by
        intro h
        have := congrArg List.length h
        rw [List.length_append, List.length_nil] at this
        omega
      unfold rdLg
      rw [if_neg hne, rdF_succ, rdB_text hd (by omega)]
      show (rdLg _ g _).map _ = _
      rw [rdLg_texts hd ts g (by omega) (by omega)]
      rfl
set_option maxRecDepth 100000 in
theorem rdF_put {f d : Nat} (hd : d < 64) {ts : List ByteArray} (hl : (encL (ts.map It.text)).length ≤ 65536) (rest : List UInt8) : rdF (f + 1 + 1) d ((putL ts).data.toList ++ rest) = some (.list (ts.map It.text), rest) := by
  have e : (putL ts).data.toList = aheadL 192 (encL (ts.map It.text)).length ++ encL (ts.map It.text) := by simp [putL, It.bytes, It.enc]
  rw [e]
  refine (rdF_succ (f + 1) d _).trans ?_
  exact rdB_list (R := fun l' => rdLg (rdF (f + 1) (d + 1)) l'.length l') (Nat.le_of_lt hd) hl (rdLg_texts (f := f) (d := d + 1) hd ts _ (Nat.le_refl _) hl) rest
theorem putL_len (ts : List ByteArray) : (encL (ts.map It.text)).length + 1 ≤ (putL ts).data.toList.length := by
  have e : (putL ts).data.toList = aheadL 192 (encL (ts.map It.text)).length ++ encL (ts.map It.text) := by simp [putL, It.bytes, It.enc]
  rw [e, List.length_append]
  unfold aheadL
  split <;> simp <;> omega
/-- What was put is read; with more behind it is none. -/
theorem decF_put {ts : List ByteArray} (hl : (putL ts).data.toList.length ≤ 65536) : decF (putL ts).data.toList = some (.list (ts.map It.text)) := by
  have h1 := putL_len ts
  unfold decF
  rw [if_neg (by omega)]
  have := rdF_put (f := (putL ts).data.toList.length - 1) (d := 0) (by decide) (ts := ts) (by omega) []
  rw [List.append_nil, show (putL ts).data.toList.length - 1 + 1 + 1 = (putL ts).data.toList.length + 1 by omega] at this
  rw [this]
theorem decF_more {ts : List ByteArray} (hl : (putL ts).data.toList.length ≤ 65536) {x : List UInt8} (hx : x ≠ []) : decF ((putL ts).data.toList ++ x) = none := by
  have h1 := putL_len ts
  unfold decF
  split
  · rfl
  · have := rdF_put (f := ((putL ts).data.toList ++ x).length - 1) (d := 0) (by decide) (ts := ts) (by omega) x
    rw [show ((putL ts).data.toList ++ x).length - 1 + 1 + 1 = ((putL ts).data.toList ++ x).length + 1 by rw [List.length_append]; omega] at this
    rw [this]
    cases x with
    | nil => exact absurd rfl hx
    | cons => rfl
theorem manyL_ext {f n : Nat} {l r : List UInt8} (h : manyL f l = some (n, r)) (x : List UInt8) : manyL f (l ++ x) = some (n, r ++ x) := by
  unfold manyL at h ⊢
  split at h
  · rename_i hf
    cases h
    rw [if_pos hf]
  · rename_i hf
    rw [if_neg hf]
    split at h
    · rename_i hl
      rw [if_pos (by rw [List.length_append]; omega), List.take_append_of_le_length hl, List.drop_append_of_le_length hl]
      simp only at h ⊢
      split at h
      · rename_i h3
        cases h
        rw [if_pos h3]
      · cases h
    · cases h
theorem RdI.ext {d : Nat} {l r : List UInt8} {i : It} (h : RdI d l (some (i, r))) (x : List UInt8) : RdI d (l ++ x) (some (i, r ++ x)) := by
  cases h with
  | one hd hb => exact .one hd hb
  | text hd hb hb2 hm hn ht =>
    rw [← List.take_append_of_le_length (l₂ := x) hn] at ht ⊢
    rw [← List.drop_append_of_le_length (l₂ := x) hn]
    exact .text hd hb hb2 (manyL_ext hm x) (by rw [List.length_append]; omega) ht
  | list hd hb hm hn h =>
    rw [← List.take_append_of_le_length (l₂ := x) hn] at h
    rw [← List.drop_append_of_le_length (l₂ := x) hn]
    exact .list hd hb (manyL_ext hm x) (by rw [List.length_append]; omega) h
/-- A cut of what was put is none. -/
theorem decR_cut {ts : List ByteArray} (hl : (putL ts).data.toList.length ≤ 65536) {p x : List UInt8} (hp : p ++ x = (putL ts).data.toList) (hx : x ≠ []) {i : It} (h : DecR p (some i)) : False := by
  have h1 := putL_len ts
  cases h with
  | good h hr =>
    have h2 := rdF_of ((putL ts).data.toList.length + 1) 0 _ _ (by rw [hp]; omega) (hr.ext x)
    have h3 := rdF_put (f := (putL ts).data.toList.length - 1) (d := 0) (by decide) (ts := ts) (by omega) []
    rw [List.append_nil, show (putL ts).data.toList.length - 1 + 1 + 1 = (putL ts).data.toList.length + 1 by omega, ← hp] at h3
    rw [hp] at h2
    rw [hp, h2] at h3
    simp only [Option.some.injEq, Prod.mk.injEq, List.nil_append] at h3
    exact hx h3.2
end Go.Proofs.YtfphlkkhpccpnaaDoor
