/-
  A word, there and back: plain.
  A list's fields, one by one.
  Fields: texts, numbers, words.
  What is asked, read.
-/
import Derived.Test.YtdnpobjokajigaaGreatDoorPart4
import Derived.Test.YtdnpobjokajigaaGreatDoorPart5
import Derived.Laws.Bits64b
namespace Go.Proofs.YtdnpobjokajigaaGreatDoor
open Go.RowKit Go.Proofs K

theorem or_step {L j : Nat} (hL : L < 18446744073709551616) (hj : j < 8) : bits BinOp.or IntKind.u64 ((L % 2 ^ (8 * j) : Nat) : Int) (IntKind.u64.wrap (IntKind.u64.wrap ((L / 2 ^ (j * 8) % 256 : Nat) : Int) * 2 ^ (j * 8))) = ((L % 2 ^ (8 * (j + 1)) : Nat) : Int) := by
  have h1 : L / 2 ^ (j * 8) % 256 < 256 := Nat.mod_lt _ (by decide)
  have h2 : 2 ^ (j * 8) ≤ 72057594037927936 := Nat.le_trans (Nat.pow_le_pow_right (by decide) (show j * 8 ≤ 56 by omega)) (by decide)
  have h3 : L / 2 ^ (j * 8) % 256 * 2 ^ (j * 8) < 18446744073709551616 := by
    have := Nat.mul_le_mul (Nat.le_of_lt_succ (show L / 2 ^ (j * 8) % 256 < 255 + 1 from h1)) h2
    omega
  rw [wrapU (by omega), show (((L / 2 ^ (j * 8) % 256 : Nat) : Int) * 2 ^ (j * 8)) = ((L / 2 ^ (j * 8) % 256 * 2 ^ (j * 8) : Nat) : Int) by simp, wrapU h3]
  have h4 : L % 2 ^ (8 * j) < 2 ^ (j * 8) := by rw [Nat.mul_comm 8 j]; exact Nat.mod_lt _ (Nat.pow_pos (by decide))
  rw [bits_or_u64_nat _ _ (by omega) h3, Nat.or_comm]
  have h5 := Nat.shiftLeft_add_eq_or_of_lt (a := L / 2 ^ (j * 8) % 256) h4
  rw [Nat.shiftLeft_eq] at h5
  rw [← h5, show 8 * (j + 1) = j * 8 + 8 by omega, Nat.pow_add, Nat.mod_mul, Nat.mul_comm 8 j, show (2 ^ 8 : Nat) = 256 from rfl, Nat.mul_comm (2 ^ (j * 8)), Nat.add_comm]
theorem of_part {s : ByteArray} {L : Nat → Nat} (hL : ∀ i, L i < 18446744073709551616) (n : Nat) (hs : ∀ k, k < n → lowB s k = ((L (k / 8) / 2 ^ (k % 8 * 8) % 256 : Nat) : Int)) : ∀ (k i : Nat), k ≤ n → ofL s k i = ((L i % 2 ^ (8 * min (k - 8 * i) 8) : Nat) : Int)
  | 0, i, _ => by
    rw [ofL, Nat.zero_sub, Nat.zero_min, Nat.mul_zero, Nat.pow_zero, Nat.mod_one]
    rfl
  | k + 1, i, hk => by
    rw [ofL, of_part hL n hs k i (by omega), hs k (by omega)]
    split
    · rename_i h
      have e1 : min (k - 8 * i) 8 = k % 8 := by omega
      have e2 : min (k + 1 - 8 * i) 8 = k % 8 + 1 := by omega
      rw [e1, e2, h]
      exact or_step (hL i) (Nat.mod_lt _ (by decide))
    · rename_i h
      have e : min (k - 8 * i) 8 = min (k + 1 - 8 * i) 8 := by omega
      rw [e]
theorem getD_map {α β : Type} (f : α → β) (l : List α) (n : Nat) (a : α) : (l.map f).getD n (f a) = f (l.getD n a) := by
  simp only [List.getD_eq_getElem?_getD, List.getElem?_map]
  cases l[n]? <;> rfl
/-- A word's bytes are read as the word. -/
theorem word_back {a b c d : Int} (ha : W64 a) (hb : W64 b) (hc : W64 c) (hd : W64 d) : ofL (wordS a b c d) (wordS a b c d).size 3 = a ∧ ofL (wordS a b c d) (wordS a b c d).size 2 = b ∧ ofL (wordS a b c d) (wordS a b c d).size 1 = c ∧ ofL (wordS a b c d) (wordS a b c d).size 0 = d := by
  have h32 : (wordS a b c d).size = 32 := by simp [wordS, strOfNums_size, wordL]
  have hl : ∀ i, W64 (lim a b c d i) := fun i => by
    match i with
    | 0 => exact hd
    | 1 => exact hc
    | 2 => exact hb
    | 3 => exact ha
    | _ + 4 => exact ⟨Int.le_refl 0, by show (0 : Int) < _; decide⟩
  have hs : ∀ k, k < 32 → lowB (wordS a b c d) k = (((lim a b c d (k / 8)).toNat / 2 ^ (k % 8 * 8) % 256 : Nat) : Int) := fun k hk => by
    unfold lowB
    have e1 : (wordS a b c d).data.toList = (wordL a b c d).map fun x => UInt8.ofNat x.toNat := by simp [wordS, strOfNums]
    rw [h32, e1, show (0 : UInt8) = (fun x : Int => UInt8.ofNat x.toNat) 0 from rfl, getD_map, wordL_at _ _ _ _ (by omega), show 31 - (32 - 1 - k) = k by omega]
    have h0 := (hl (k / 8)).1
    have e2 : wbyte a b c d k = (((lim a b c d (k / 8)).toNat / 2 ^ (k % 8 * 8) % 256 : Nat) : Int) := by
      unfold wbyte
      obtain ⟨n, hn⟩ := Int.eq_ofNat_of_zero_le h0
      rw [hn]
      simp
    rw [byteOf (by rw [e2]; omega) (by rw [e2]; omega), e2]
  have key := of_part (s := wordS a b c d) (L := fun i => (lim a b c d i).toNat) (fun i => by have := hl i; unfold W64 at this; show (lim a b c d i).toNat < _; omega) 32 hs 32
  rw [h32]
  unfold W64 at ha hb hc hd
  refine ⟨?_, ?_, ?_, ?_⟩
  · rw [key 3 (by omega)]
    simp only [lim]
    rw [Nat.mod_eq_of_lt (by simp; omega)]
    omega
  · rw [key 2 (by omega)]
    simp only [lim]
    rw [Nat.mod_eq_of_lt (by simp; omega)]
    omega
  · rw [key 1 (by omega)]
    simp only [lim]
    rw [Nat.mod_eq_of_lt (by simp; omega)]
    omega
  · rw [key 0 (by omega)]
    simp only [lim]
    rw [Nat.mod_eq_of_lt (by simp; omega)]
    omega
end Go.Proofs.YtdnpobjokajigaaGreatDoor

namespace Go.Proofs.YtdnpobjokajigaaGreatDoor
open Go.RowKit Go.Proofs K

def refusedV : Value := .iface 235 (.agg #[])
def refusedC : List PanicEntry := [{ v := refusedV, recovered := false }]
def PanF (H0 H : Hs) (w0 : World) (X : Nat → Prop) (qs : List Hp) (e : Ending) (w' : World) : Prop := e = .panicked refusedC ∧ St H0 w0 X H w' qs
def fldO (v : Value) : Obj := .cells #[v] 252
/-- What is left of a list. -/
def NextP (l : List It) (H0 H : Hs) (w0 : World) (X : Nat → Prop) (q : Nat) (qs : List Hp) (e : Ending) (w' : World) : Prop :=
  match l with
  | [] => PanF H0 H w0 X qs e w'
  | i :: l' => ∃ x y z v', e = .returned (.agg #[x, y, z]) ∧ RepL H [x, y, z] i.d ∧ RepV H v' (.sl 3 l'.length (itsD l')) ∧ St H0 w0 X H w' (blk q (fldO v') :: qs)
theorem Row.drop {H : Hs} {b o : Nat} {cs : List Value} (h : Row H (some ⟨b, o, none⟩) cs) (n : Nat) (hn : n ≤ cs.length) : Row H (some ⟨b, o + n, none⟩) (cs.drop n) := by
  rcases h with rfl | ⟨b', o', cur, t, fr, hA, hb, h⟩
  · exact .inl (by simp)
  · cases hA
    refine .inr ⟨b, o + n, cur, t, fr, rfl, hb, fun j u hu => ?_⟩
    rw [Nat.add_assoc]
    exact h (n + j) u (by rw [← hu, List.getElem?_drop])
section
variable {H0 H : Hs} {w0 w : World} {X : Nat → Prop} {ps : List Hp} {q : Nat}
theorem next_none (S : St H0 w0 X H w ps) (i : Nat) {v : Value} (hi : ps[i]? = some (blk q (fldO v))) (hv : RepV H v (.sl 3 0 (itsD []))) :
    Calls Tryz.prog 169 #[.pointer (some ⟨q, 0, none⟩)] w (PanF H0 H w0 X (ps.eraseIdx i)) := by
  have hp : ∀ w, (Instr.panic (.iface 235 (.agg #[]))).run Tryz.prog w = .halt (.panic (.iface 235 (.agg #[]))) w := fun _ => rfl
  obtain ⟨A, c, cs, rfl, _⟩ := hv.sl_inv
  have c0 : w.cell? ⟨q, 0, none⟩ = some (.slice A 0 c) := S.cell i hi rfl
  have hq : q < w.heap.size := S.blk_lt i hi
  have HS := Lib.hid ((S.drop i).alloc (.cells #[.bool false, .string ⟨#[]⟩, .slice none 0 0] 123))
  clear S hv
  go_enter Tryz.func169, Tryz.ntmps169
  go_wp2
  exact bodyPost_pan rfl ⟨rfl, HS.out.drop 0⟩
set_option maxRecDepth 100000 in
theorem next_some (S : St H0 w0 X H w ps) (i : Nat) {v : Value} {x : It} {l : List It} (hi : ps[i]? = some (blk q (fldO v))) (hv : RepV H v (.sl 3 (x :: l).length (itsD (x :: l)))) (hl : l.length ≤ 65536) :
    Calls Tryz.prog 169 #[.pointer (some ⟨q, 0, none⟩)] w (NextP (x :: l) H0 H w0 X q (ps.eraseIdx i)) := by
  obtain ⟨A, c, cs, rfl, hnc, hA, hlen, hr, hd⟩ := hv.sl_inv
  obtain ⟨x0, x1, x2, h0, h1, h2, hx⟩ := its_at hd (k := 0) (by simp)
  obtain ⟨p, s, A', n', c', rfl, rfl, rfl⟩ := it_cells hx
  obtain ⟨b0, o, rfl, hb0, hcell⟩ := hr.cells S.ag (by rintro rfl; simp at h0)
  have k0 := hcell _ _ h0
  have k1 := hcell _ _ h1
  have k2 := hcell _ _ h2
  simp only [Nat.zero_mul, Nat.zero_add, Nat.add_zero] at k0 k1 k2
  have hcl : 3 ≤ cs.length := by rw [hd.len, itsD_length]; simp; omega
  have htl : RepL H (cs.drop 3) (itsD l) := by
    have h5 := hd
    rw [itsD] at h5
    obtain ⟨a, b, rfl, ha, hb⟩ := RepL.split h5
    have hla : a.length = 3 := by rw [ha.len, It.d_length]
    rw [List.drop_append_of_le_length (by omega), List.drop_of_length_le (by omega), List.nil_append]
    exact hb
  have HTL := Lib.hid (And.intro htl (And.intro (Row.drop hr 3 hcl) (And.intro hr hnc)))
  have HX := Lib.hid hx
  have c0 : w.cell? ⟨q, 0, none⟩ = some (.slice (some ⟨b0, o, none⟩) (l.length + 1) c) := S.cell i hi rfl
  have hq : q < w.heap.size := S.blk_lt i hi
  have f0 := S.frozen i hi 0
  have hc1 : l.length + 1 ≤ c := hnc
  have HS := Lib.hid S
  clear S hv hd hr hx hA hlen htl hcell h0 h1 h2
  by_cases hc : c = 1
  · subst hc
    obtain rfl : l = [] := List.eq_nil_of_length_eq_zero (by omega)
    go_enter Tryz.func169, Tryz.ntmps169
    go_wp2
    exact bodyPost_ret (v := .agg #[.bool p, .string s, .slice A' n' c']) (by simp [results, Tryz.results169, go_sem]) rfl ⟨_, _, _, _, rfl, HX.out, .sl (n := 0) (Nat.le_refl _) (fun e => by cases e) rfl (.inl rfl) .nil, ((((HS.out.setCell (j := 0) i hi (.slice (some ⟨b0, o, none⟩) 0 0)).alloc _).alloc _).drop 0).drop 0⟩
  · go_enter Tryz.func169, Tryz.ntmps169
    go_wp2
    exact bodyPost_ret (v := .agg #[.bool p, .string s, .slice A' n' c']) (by simp [results, Tryz.results169, go_sem]) rfl ⟨_, _, _, _, rfl, HX.out, .sl (by omega) (fun e => by cases e) (itsD_length l) HTL.out.2.1 HTL.out.1, ((((HS.out.setCell (j := 0) i hi (.slice (some ⟨b0, o + 3, none⟩) l.length (c - 1))).alloc _).alloc _).drop 0).drop 0⟩
end
end Go.Proofs.YtdnpobjokajigaaGreatDoor

namespace Go.Proofs.YtdnpobjokajigaaGreatDoor
open Go.RowKit Go.Proofs K

/-- A field is told, the others are left; or it throws. -/
def FldP (o : Option (Value × List It)) (H0 H : Hs) (w0 : World) (X : Nat → Prop) (q : Nat) (qs : List Hp) (e : Ending) (w' : World) : Prop :=
  match o with
  | some (x, l') => ∃ v', e = .returned x ∧ RepV H v' (.sl 3 l'.length (itsD l')) ∧ St H0 w0 X H w' (blk q (fldO v') :: qs)
  | none => PanF H0 H w0 X qs e w'
def txtR (n : Int) : List It → Option (ByteArray × List It)
  | .text s :: l' => if n < 0 ∨ (s.size : Int) = n then some (s, l') else none
  | _ => none
def numR : List It → Option (Int × List It)
  | .text s :: l' => if smallOk s then some (smallR s, l') else none
  | _ => none
def ofV (s : ByteArray) : Value := .agg #[.int .u64 (ofL s s.size 3), .int .u64 (ofL s s.size 2), .int .u64 (ofL s s.size 1), .int .u64 (ofL s s.size 0)]
section
variable {H0 H : Hs} {w0 w : World} {X : Nat → Prop} {ps : List Hp} {q : Nat}
theorem ftext_any (l : List It) (hl : l.length ≤ 65536) (n : Int) (S : St H0 w0 X H w ps) (i : Nat) {v : Value} (hi : ps[i]? = some (blk q (fldO v))) (hv : RepV H v (.sl 3 l.length (itsD l))) :
    Calls Tryz.prog 128 #[.pointer (some ⟨q, 0, none⟩), .int .i64 n] w (FldP ((txtR n l).map fun x => (.string x.1, x.2)) H0 H w0 X q (ps.eraseIdx i)) := by
  have hp : ∀ w, (Instr.panic (.iface 235 (.agg #[]))).run Tryz.prog w = .halt (.panic (.iface 235 (.agg #[]))) w := fun _ => rfl
  have HS := Lib.hid S
  have HI := Lib.hid hi
  have HV := Lib.hid hv
  clear S hi hv
  match l with
  | [] =>
    go_enter Tryz.func128, Tryz.ntmps128
    go_wp2_with fail
    refine (next_none HS.out i HI.out HV.out).mono ?_
    rintro e w1 ⟨rfl, S1⟩
    go_wp2_with fail
    exact bodyPost_pan rfl ⟨rfl, S1⟩
  | .list k :: l' =>
    go_enter Tryz.func128, Tryz.ntmps128
    go_wp2_with fail
    refine (next_some HS.out i HI.out HV.out (by simp at hl; omega)).mono ?_
    rintro e w1 ⟨x, y, z, v', rfl, hr, _, S1⟩
    obtain ⟨A, c, rfl, rfl, rfl, _⟩ := list_cells hr
    have HS1 := Lib.hid ((S1.drop 0).alloc (.cells #[.bool true, .string ⟨#[]⟩, .slice A k.length c] 123))
    clear S1 hr
    go_wp2_with fail
    exact bodyPost_pan rfl ⟨rfl, HS1.out.drop 0⟩
  | .text s :: l' =>
    by_cases h : n < 0 ∨ (s.size : Int) = n
    · have e1 : txtR n (.text s :: l') = some (s, l') := by simp only [txtR]; rw [if_pos h]
      rw [e1]
      have hcond : (n < 0) ∨ (¬ n < 0 ∧ (s.size : Int) = n) := by omega
      have HC := Lib.hid hcond
      clear h e1 hcond
      go_enter Tryz.func128, Tryz.ntmps128
      go_wp2_with fail
      refine (next_some HS.out i HI.out HV.out (by simp at hl; omega)).mono ?_
      rintro e w1 ⟨x, y, z, v', rfl, hr, hv', S1⟩
      obtain ⟨A, c, rfl, rfl, rfl⟩ := text_cells hr
      have HS1 := Lib.hid (S1.alloc (.cells #[.bool false, .string s, .slice A 0 c] 123))
      have HV1 := Lib.hid hv'
      clear S1 hr hv'
      rcases HC.out with h | ⟨h, h2⟩
      · have h' : decide (0 ≤ n) = false := by simp; omega
        clear HC
        go_wp2_with fail
        go_ret
        exact ⟨v', rfl, HV1.out, HS1.out.drop 0⟩
      · have h' : decide (0 ≤ n) = true := by simp; omega
        have h3 : ((s.size : Int) != n) = false := by rw [bne_eq_false_iff_eq]; exact h2
        clear HC h2
        go_wp2_with fail
        go_ret
        exact ⟨v', rfl, HV1.out, HS1.out.drop 0⟩
    · have e1 : txtR n (.text s :: l') = none := by simp only [txtR]; rw [if_neg h]
      rw [e1]
      have h' : decide (0 ≤ n) = true := by simp; omega
      have h0 : ¬ n < 0 := by omega
      have h3 : ((s.size : Int) != n) = true := by rw [bne_iff_ne]; intro e; exact h (.inr e)
      clear h e1
      go_enter Tryz.func128, Tryz.ntmps128
      go_wp2_with fail
      refine (next_some HS.out i HI.out HV.out (by simp at hl; omega)).mono ?_
      rintro e w1 ⟨x, y, z, v', rfl, hr, hv', S1⟩
      obtain ⟨A, c, rfl, rfl, rfl⟩ := text_cells hr
      have HS1 := Lib.hid ((S1.drop 0).alloc (.cells #[.bool false, .string s, .slice A 0 c] 123))
      clear S1 hr hv'
      go_wp2_with fail
      exact bodyPost_pan rfl ⟨rfl, HS1.out.drop 0⟩
theorem fnumber_any (l : List It) (hl : l.length ≤ 65536) (S : St H0 w0 X H w ps) (i : Nat) {v : Value} (hi : ps[i]? = some (blk q (fldO v))) (hv : RepV H v (.sl 3 l.length (itsD l))) :
    Calls Tryz.prog 126 #[.pointer (some ⟨q, 0, none⟩)] w (FldP ((numR l).map fun x => (.int .u64 x.1, x.2)) H0 H w0 X q (ps.eraseIdx i)) := by
  have hp : ∀ w, (Instr.panic (.iface 235 (.agg #[]))).run Tryz.prog w = .halt (.panic (.iface 235 (.agg #[]))) w := fun _ => rfl
  have HS := Lib.hid S
  have HI := Lib.hid hi
  have HV := Lib.hid hv
  clear S hi hv
  match l with
  | [] =>
    go_enter Tryz.func126, Tryz.ntmps126
    go_wp2_with fail
    refine (next_none HS.out i HI.out HV.out).mono ?_
    rintro e w1 ⟨rfl, S1⟩
    go_wp2_with fail
    exact bodyPost_pan rfl ⟨rfl, S1⟩
  | .list k :: l' =>
    go_enter Tryz.func126, Tryz.ntmps126
    go_wp2_with fail
    refine (next_some HS.out i HI.out HV.out (by simp at hl; omega)).mono ?_
    rintro e w1 ⟨x, y, z, v', rfl, hr, _, S1⟩
    obtain ⟨A, c, rfl, rfl, rfl, _⟩ := list_cells hr
    have HS1 := Lib.hid (S1.drop 0)
    clear S1 hr
    go_wp2_with fail
    refine (small_list _ _ _ _ _).mono ?_
    rintro e w2 ⟨rfl, hb2⟩
    have HS2 := Lib.hid (HS1.out.grow hb2)
    clear hb2
    go_wp2_with fail
    exact bodyPost_pan rfl ⟨rfl, HS2.out⟩
  | .text s :: l' =>
    have e1 : numR (.text s :: l') = if smallOk s then some (smallR s, l') else none := rfl
    rw [e1]
    obtain ⟨b, HB⟩ : ∃ b, Hid (b = smallOk s) := ⟨_, rfl⟩
    rw [← HB.out]
    clear e1
    go_enter Tryz.func126, Tryz.ntmps126
    go_wp2_with fail
    refine (next_some HS.out i HI.out HV.out (by simp at hl; omega)).mono ?_
    rintro e w1 ⟨x, y, z, v', rfl, hr, hv', S1⟩
    obtain ⟨A, c, rfl, rfl, rfl⟩ := text_cells hr
    have HS1 := Lib.hid S1
    have HV1 := Lib.hid hv'
    clear S1 hr hv'
    go_wp2_with fail
    refine (small_text _ _ _ _ _).mono ?_
    rintro e w2 ⟨rfl, hb2⟩
    have HS2 := Lib.hid (HS1.out.grow hb2)
    clear hb2
    rw [← HB.out]
    clear HB
    cases b
    · go_wp2_with fail
      exact bodyPost_pan rfl ⟨rfl, HS2.out.drop 0⟩
    · go_wp2_with fail
      go_ret
      exact ⟨v', rfl, HV1.out, HS2.out⟩
theorem fword_any (l : List It) (hl : l.length ≤ 65536) (S : St H0 w0 X H w ps) (i : Nat) {v : Value} (hi : ps[i]? = some (blk q (fldO v))) (hv : RepV H v (.sl 3 l.length (itsD l))) :
    Calls Tryz.prog 127 #[.pointer (some ⟨q, 0, none⟩)] w (FldP ((txtR 32 l).map fun x => (ofV x.1, x.2)) H0 H w0 X q (ps.eraseIdx i)) := by
  have HS := Lib.hid (S.alloc (.cells #[.int .u64 0, .int .u64 0, .int .u64 0, .int .u64 0] 24))
  have HI := Lib.hid hi
  have HV := Lib.hid hv
  clear S hi hv
  go_enter Tryz.func127, Tryz.ntmps127
  go_wp2_with fail
  refine (ftext_any l hl 32 HS.out (i + 1) HI.out HV.out).mono ?_
  intro e w1 hM
  cases ht : txtR 32 l with
  | none =>
    rw [ht] at hM
    obtain ⟨rfl, S1⟩ := hM
    have HT := Lib.hid ht
    clear ht
    go_wp2_with fail
    exact bodyPost_pan rfl (by rw [HT.out]; exact ⟨rfl, S1.drop 0⟩)
  | some x =>
    obtain ⟨s, l'⟩ := x
    rw [ht] at hM
    obtain ⟨v', rfl, hv', S1⟩ := hM
    have ht' := ht
    have h32 : s.size = 32 := by
      unfold txtR at ht
      split at ht
      · split at ht
        · rename_i h
          cases ht
          omega
        · cases ht
      · cases ht
    have H32 := Lib.hid h32
    have HT := Lib.hid (show txtR 32 l = some (s, l') from ht')
    have HS1 : Hid (St H0 w0 X H w1 (blk q (fldO v') :: blk w.heap.size (.cells #[.int .u64 0, .int .u64 0, .int .u64 0, .int .u64 0] 24) :: ps.eraseIdx i)) := S1
    have HV1 := Lib.hid hv'
    clear ht ht' hv' S1 HS h32
    go_wp2_with fail
    refine (of_any s (by rw [H32.out]; decide) _).mono ?_
    rintro e w2 ⟨rfl, hb2⟩
    obtain ⟨a, ha⟩ : ∃ a, a = ofL s s.size 3 := ⟨_, rfl⟩
    obtain ⟨b, hb⟩ : ∃ b, b = ofL s s.size 2 := ⟨_, rfl⟩
    obtain ⟨c, hc⟩ : ∃ c, c = ofL s s.size 1 := ⟨_, rfl⟩
    obtain ⟨d, hd⟩ : ∃ d, d = ofL s s.size 0 := ⟨_, rfl⟩
    rw [← ha, ← hb, ← hc, ← hd]
    have HE := Lib.hid (show (.agg #[.int .u64 a, .int .u64 b, .int .u64 c, .int .u64 d] : Value) = ofV s by rw [ha, hb, hc, hd]; rfl)
    have HS2 := Lib.hid ((HS1.out.grow hb2).alloc (.cells #[.int .u64 a, .int .u64 b, .int .u64 c, .int .u64 d] 24))
    clear hb2 ha hb hc hd HS1
    go_wp2_with (first
      | (refine wpList_store_st (cs := #[.int .u64 a, .int .u64 b, .int .u64 c, .int .u64 d]) 2 HS2.out rfl rfl 24 (.tmp 2) (.tmp 11) rfl rfl rfl szWord rfl (oneW _ _ _ _) ?_)
      | fail)
    intro w4 S4
    go_wp2_with fail
    exact post_cell 0 S4 rfl Tryz.results127 rfl _ Tryz.underlying24 rfl szWord rfl (by rw [HT.out]; exact ⟨v', congrArg Ending.returned HE.out, HV1.out, (S4.drop 0).drop 0⟩)
end
end Go.Proofs.YtdnpobjokajigaaGreatDoor

namespace Go.Proofs.YtdnpobjokajigaaGreatDoor
open Go.RowKit Go.Proofs K

theorem smallR_bd (s : ByteArray) : 0 ≤ smallR s ∧ smallR s < 18446744073709551616 := by
  unfold smallR
  split
  · exact smallV_bd _
  · exact ⟨by decide, by decide⟩
theorem numR_bd {l l' : List It} {n : Int} (h : numR l = some (n, l')) : 0 ≤ n ∧ n < 18446744073709551616 := by
  unfold numR at h
  split at h
  · split at h
    · cases h; exact smallR_bd _
    · cases h
  · cases h
theorem numR_len {l l' : List It} {n : Int} (h : numR l = some (n, l')) : l'.length ≤ l.length := by
  unfold numR at h
  split at h
  · split at h
    · cases h; simp
    · cases h
  · cases h
theorem txtR_len {l l' : List It} {n : Int} {s : ByteArray} (h : txtR n l = some (s, l')) : l'.length ≤ l.length := by
  unfold txtR at h
  split at h
  · split at h
    · cases h; simp
    · cases h
  · cases h
theorem and3 {k : Int} (h0 : 0 ≤ k) (h1 : k < 18446744073709551616) : bits BinOp.and IntKind.u64 k 3 = k % 4 := by
  obtain ⟨n, rfl⟩ := Int.eq_ofNat_of_zero_le h0
  have h2 := bits_and_u64_nat n 3 (by omega) (by decide)
  have h3 : n &&& 3 = n % 4 := Nat.and_two_pow_sub_one_eq_mod n 2
  rw [show ((3 : Int)) = ((3 : Nat) : Int) from rfl, h2, h3]
  omega
def askR (l : List It) : Option (Array Value × List It) :=
  (numR l).bind fun x => (numR x.2).bind fun y => (txtR 20 y.2).bind fun z =>
    if y.1 % 4 = 1 then some (askC x.1 z.1 0 0 0 0 (y.1 % 4), z.2)
    else if y.1 % 4 = 2 then (txtR 32 z.2).map fun s => (askC x.1 z.1 (ofL s.1 s.1.size 3) (ofL s.1 s.1.size 2) (ofL s.1 s.1.size 1) (ofL s.1 s.1.size 0) (y.1 % 4), s.2)
    else none
def zAsk : Array Value := askC 0 ⟨#[]⟩ 0 0 0 0 0
theorem szAsk : (Tryz.prog.info? 45).map (·.size) = some 7 := by kernel_rfl
theorem oneAsk (id : Int) (s : ByteArray) (a b c d k : Int) : (askC id s a b c d k).all (·.oneCell') = true := by simp [askC, Value.oneCell']
section
variable {H0 H : Hs} {w0 w : World} {X : Nat → Prop} {ps : List Hp} {q : Nat}
set_option maxRecDepth 100000 in
set_option maxHeartbeats 1000000 in
theorem ask_any (l : List It) (hl : l.length ≤ 65536) (S : St H0 w0 X H w ps) (i : Nat) {v : Value} (hi : ps[i]? = some (blk q (fldO v))) (hv : RepV H v (.sl 3 l.length (itsD l))) :
    Calls Tryz.prog 74 #[.pointer (some ⟨q, 0, none⟩)] w (FldP ((askR l).map fun x => (.agg x.1, x.2)) H0 H w0 X q (ps.eraseIdx i)) := by
  have hp : ∀ w, (Instr.panic (.iface 235 (.agg #[]))).run Tryz.prog w = .halt (.panic (.iface 235 (.agg #[]))) w := fun _ => rfl
  have hmf : ∀ (fn : Fn) (first cap : Array Value) (w : World), (Instr.makeFunc fn first cap).run Tryz.prog w = .ok (.func fn first cap) w := fun _ _ _ _ => rfl
  have HS := Lib.hid (S.alloc (.cells zAsk 45))
  have HI := Lib.hid hi
  have HV := Lib.hid hv
  have HLN := Lib.hid hl
  clear S hi hv hl
  go_enter Tryz.func74, Tryz.ntmps74
  go_wp2_with fail
  refine (fnumber_any l HLN.out HS.out (i + 1) HI.out HV.out).mono ?_
  intro e w1 hM
  cases h1 : numR l with
  | none =>
    rw [h1] at hM
    obtain ⟨rfl, S1⟩ := hM
    have HP := Lib.hid (show askR l = none by simp [askR, h1])
    clear h1
    go_wp2_with fail
    exact bodyPost_pan rfl (by rw [HP.out]; exact ⟨rfl, S1.drop 0⟩)
  | some x =>
    obtain ⟨id, l1⟩ := x
    rw [h1] at hM
    obtain ⟨v1, rfl, hv1, S1⟩ := hM
    have HS1 : Hid (St H0 w0 X H w1 (blk q (fldO v1) :: blk w.heap.size (.cells zAsk 45) :: ps.eraseIdx i)) := S1
    have HV1 := Lib.hid hv1
    have H1 := Lib.hid h1
    clear S1 hv1 h1 HS
    go_wp2_with fail
    refine (fnumber_any l1 (Nat.le_trans (numR_len H1.out) HLN.out) HS1.out 0 rfl HV1.out).mono ?_
    intro e w2 hM
    cases h2 : numR l1 with
    | none =>
      rw [h2] at hM
      obtain ⟨rfl, S2⟩ := hM
      have HP := Lib.hid (show askR l = none by simp [askR, H1.out, h2])
      clear h2
      go_wp2_with fail
      exact bodyPost_pan rfl (by rw [HP.out]; exact ⟨rfl, S2.drop 0⟩)
    | some y =>
      obtain ⟨k, l2⟩ := y
      rw [h2] at hM
      obtain ⟨v2, rfl, hv2, S2⟩ := hM
      have HS2 : Hid (St H0 w0 X H w2 (blk q (fldO v2) :: blk w.heap.size (.cells zAsk 45) :: ps.eraseIdx i)) := S2
      have HV2 := Lib.hid hv2
      have H2 := Lib.hid h2
      obtain ⟨hk0, hk1⟩ := numR_bd h2
      have hand := and3 hk0 hk1
      have HK := Lib.hid (And.intro hk0 hk1)
      have hm0 : 0 ≤ k % 4 := by omega
      have hm1 : k % 4 < 4 := by omega
      obtain ⟨kd, hkd⟩ : ∃ kd, kd = k % 4 := ⟨_, rfl⟩
      rw [← hkd] at hand hm0 hm1
      have HKD := Lib.hid hkd
      clear hkd
      clear S2 hv2 h2 HS1 hk0 hk1
      go_wp2_with fail
      refine (ftext_any l2 (Nat.le_trans (numR_len H2.out) (Nat.le_trans (numR_len H1.out) HLN.out)) 20 HS2.out 0 rfl HV2.out).mono ?_
      intro e w3 hM
      cases h3 : txtR 20 l2 with
      | none =>
        rw [h3] at hM
        obtain ⟨rfl, S3⟩ := hM
        have HP := Lib.hid (show askR l = none by simp [askR, H1.out, H2.out, h3])
        clear h3
        go_wp2_with fail
        exact bodyPost_pan rfl (by rw [HP.out]; exact ⟨rfl, S3.drop 0⟩)
      | some z =>
        obtain ⟨addr, l3⟩ := z
        rw [h3] at hM
        obtain ⟨v3, rfl, hv3, S3⟩ := hM
        have HS3 : Hid (St H0 w0 X H w3 (blk q (fldO v3) :: blk w.heap.size (.cells zAsk 45) :: ps.eraseIdx i)) := S3
        have HV3 := Lib.hid hv3
        have H3 := Lib.hid h3
        clear S3 hv3 h3 HS2
        by_cases hk1 : kd = 1
        · have HP : Hid (askR l = some (askC id addr 0 0 0 0 kd, l3)) := by
            unfold Hid
            simp [askR, H1.out, H2.out, H3.out, ← HKD.out, hk1]
          have e1 : (kd == 1) = true := beq_iff_eq.2 hk1
          have HS4 := Lib.hid (HS3.out.alloc (.cells (askC id addr 0 0 0 0 kd) 45))
          clear hk1 HS3
          go_wp2_with (first
            | (refine wpList_load_st (cs := askC id addr 0 0 0 0 kd) 0 HS4.out rfl rfl 45 (.tmp 5) rfl rfl _ Tryz.underlying45 rfl szAsk ?_)
            | (refine wpList_store_st (cs := askC id addr 0 0 0 0 kd) 2 HS4.out rfl rfl 45 (.tmp 2) (.tmp 30) rfl rfl rfl szAsk rfl (oneAsk _ _ _ _ _ _ _) ?_)
            | fail)
          intro w8 S8
          go_wp2_with fail
          exact post_cell 0 S8 rfl Tryz.results74 rfl _ Tryz.underlying45 rfl szAsk rfl (by rw [HP.out]; exact ⟨v3, rfl, HV3.out, (S8.drop 0).drop 0⟩)
        · by_cases hk2 : kd = 2
          · have e1 : (kd == 1) = false := beq_eq_false_iff_ne.2 hk1
            have e2 : (kd == 2) = true := beq_iff_eq.2 hk2
            have HK2 := Lib.hid hk2
            have HS4 := Lib.hid (HS3.out.alloc (.cells (askC id addr 0 0 0 0 kd) 45))
            clear hk1 hk2 HS3
            go_wp2_with fail
            refine (fword_any l3 (Nat.le_trans (txtR_len H3.out) (Nat.le_trans (numR_len H2.out) (Nat.le_trans (numR_len H1.out) HLN.out))) HS4.out 1 rfl HV3.out).mono ?_
            intro e w4 hM
            cases h4 : txtR 32 l3 with
            | none =>
              rw [h4] at hM
              obtain ⟨rfl, S4⟩ := hM
              have HP := Lib.hid (show askR l = none by simp [askR, H1.out, H2.out, H3.out, h4, ← HKD.out, HK2.out])
              clear h4
              go_wp2_with fail
              exact bodyPost_pan rfl (by rw [HP.out]; exact ⟨rfl, (S4.drop 0).drop 0⟩)
            | some sx =>
              obtain ⟨sl, l4⟩ := sx
              rw [h4] at hM
              obtain ⟨v4, rfl, hv4, S4⟩ := hM
              have HP : Hid (askR l = some (askC id addr (ofL sl sl.size 3) (ofL sl sl.size 2) (ofL sl sl.size 1) (ofL sl sl.size 0) kd, l4)) := by
                unfold Hid
                simp [askR, H1.out, H2.out, H3.out, h4, ← HKD.out, HK2.out]
              unfold ofV
              obtain ⟨a, ha⟩ : ∃ a, a = ofL sl sl.size 3 := ⟨_, rfl⟩
              obtain ⟨b, hb⟩ : ∃ b, b = ofL sl sl.size 2 := ⟨_, rfl⟩
              obtain ⟨c, hc⟩ : ∃ c, c = ofL sl sl.size 1 := ⟨_, rfl⟩
              obtain ⟨d, hd⟩ : ∃ d, d = ofL sl sl.size 0 := ⟨_, rfl⟩
              rw [← ha, ← hb, ← hc, ← hd] at HP ⊢
              have HS5 : Hid (St H0 w0 X H w4 (blk q (fldO v4) :: blk w3.heap.size (.cells (askC id addr 0 0 0 0 kd) 45) :: blk w.heap.size (.cells zAsk 45) :: ps.eraseIdx i)) := S4
              have HV4 := Lib.hid hv4
              have c2 : w4.cell? ⟨w3.heap.size, 2, none⟩ = some (.int .u64 0) := HS5.out.cell 1 rfl rfl
              have c3 : w4.cell? ⟨w3.heap.size, 3, none⟩ = some (.int .u64 0) := HS5.out.cell 1 rfl rfl
              have c4 : w4.cell? ⟨w3.heap.size, 4, none⟩ = some (.int .u64 0) := HS5.out.cell 1 rfl rfl
              have c5 : w4.cell? ⟨w3.heap.size, 5, none⟩ = some (.int .u64 0) := HS5.out.cell 1 rfl rfl
              have g2 := HS5.out.frozen 1 rfl 2
              have g3 := HS5.out.frozen 1 rfl 3
              have g4 := HS5.out.frozen 1 rfl 4
              have g5 := HS5.out.frozen 1 rfl 5
              have HS6 : Hid (St H0 w0 X H _ (blk w3.heap.size (.cells (askC id addr a b c d kd) 45) :: blk q (fldO v4) :: blk w.heap.size (.cells zAsk 45) :: ps.eraseIdx i)) := Lib.hid ((((HS5.out.setCell (j := 2) 1 rfl (.int .u64 a)).setCell (j := 3) 0 rfl (.int .u64 b)).setCell (j := 4) 0 rfl (.int .u64 c)).setCell (j := 5) 0 rfl (.int .u64 d))
              clear S4 hv4 h4 HS4 ha hb hc hd HS5
              go_wp2_with (first
                | (refine wpList_load_st (cs := askC id addr a b c d kd) 0 HS6.out rfl rfl 45 (.tmp 5) rfl rfl _ Tryz.underlying45 rfl szAsk ?_)
                | (refine wpList_store_st (cs := askC id addr a b c d kd) 2 HS6.out rfl rfl 45 (.tmp 2) (.tmp 30) rfl rfl rfl szAsk rfl (oneAsk _ _ _ _ _ _ _) ?_)
                | fail)
              intro w8 S8
              go_wp2_with fail
              exact post_cell 0 S8 rfl Tryz.results74 rfl _ Tryz.underlying45 rfl szAsk rfl (by rw [HP.out]; exact ⟨v4, rfl, HV4.out, (S8.drop 0).drop 0⟩)
          · have HP := Lib.hid (show askR l = none by simp [askR, H1.out, H2.out, H3.out, ← HKD.out, hk1, hk2])
            have e1 : (kd == 1) = false := beq_eq_false_iff_ne.2 hk1
            have e2 : (kd == 2) = false := beq_eq_false_iff_ne.2 hk2
            have HS4 := Lib.hid (HS3.out.alloc (.cells (askC id addr 0 0 0 0 kd) 45))
            clear hk1 hk2 HS3
            go_wp2_with fail
            exact bodyPost_pan rfl (by rw [HP.out]; exact ⟨rfl, ((HS4.out.drop 0).drop 0).drop 0⟩)
end
end Go.Proofs.YtdnpobjokajigaaGreatDoor
