/-
  Fields: texts, numbers, words.
-/
import Derived.Test.YtfphlkkhpccpnaaDoorFld
namespace Go.Proofs.YtfphlkkhpccpnaaDoor
open Go.RowKit Go.Proofs K

/-- A field is told, the others are left; or it throws. -/
def FldP (o : Option (Value × List It)) (H0 H : Hs) (w0 : World) (X : Nat → Prop) (q : Nat) (qs : List Hp) (e : Ending) (w' : World) : Prop :=
  match o with
  | some (x, l') => ∃ v', e = .returned x ∧ RepV H v' (.sl 3 l'.length (itsD l')) ∧ St H0 w0 X H w' (blk q (fldO v') :: qs)
  | none => PanF H0 H w0 X qs e w'
def txtR (n : Int) : List It → Option (ByteArray × List It)
  | .text s :: l' => if n < 0 ∨ (s.size : Int) = n then some (s, l') else none
  | _ => none
def numR : List It → Option (Int × List It)
  | .text s :: l' => if smallOk s then some (smallR s, l') else none
  | _ => none
def ofV (s : ByteArray) : Value := .agg #[.int .u64 (ofL s s.size 3), .int .u64 (ofL s s.size 2), .int .u64 (ofL s s.size 1), .int .u64 (ofL s s.size 0)]
section
variable {H0 H : Hs} {w0 w : World} {X : Nat → Prop} {ps : List Hp} {q : Nat}
theorem ftext_any (l : List It) (hl : l.length ≤ 65536) (n : Int) (S : St H0 w0 X H w ps) (i : Nat) {v : Value} (hi : ps[i]? = some (blk q (fldO v))) (hv : RepV H v (.sl 3 l.length (itsD l))) :
    Calls Tryd.prog 53 #[.pointer (some ⟨q, 0, none⟩), .int .i64 n] w (FldP ((txtR n l).map fun x => (.string x.1, x.2)) H0 H w0 X q (ps.eraseIdx i)) := by
  have hp : ∀ w, (Instr.panic (.iface 106 (.agg #[]))).run Tryd.prog w = .halt (.panic (.iface 106 (.agg #[]))) w := fun _ => rfl
  have HS := Lib.hid S
  have HI := Lib.hid hi
  have HV := Lib.hid hv
  clear S hi hv
  match l with
  | [] =>
    go_enter Tryd.func53, Tryd.ntmps53
    go_wp2_with fail
    refine (next_none HS.out i HI.out HV.out).mono ?_
    rintro e w1 ⟨rfl, S1⟩
    go_wp2_with fail
    exact bodyPost_pan rfl ⟨rfl, S1⟩
  | .list k :: l' =>
    go_enter Tryd.func53, Tryd.ntmps53
    go_wp2_with fail
    refine (next_some HS.out i HI.out HV.out (by simp at hl; omega)).mono ?_
    rintro e w1 ⟨x, y, z, v', rfl, hr, _, S1⟩
    obtain ⟨A, c, rfl, rfl, rfl, _⟩ := list_cells hr
    have HS1 := Lib.hid ((S1.drop 0).alloc (.cells #[.bool true, .string ⟨#[]⟩, .slice A k.length c] 76))
    clear S1 hr
    go_wp2_with fail
    exact bodyPost_pan rfl ⟨rfl, HS1.out.drop 0⟩
  | .text s :: l' =>
    by_cases h : n < 0 ∨ (s.size : Int) = n
    · have e1 : txtR n (.text s :: l') = some (s, l') := by simp only [txtR]; rw [if_pos h]
      rw [e1]
      have hcond : (n < 0) ∨ (¬ n < 0 ∧ (s.size : Int) = n) := by omega
      have HC := Lib.hid hcond
      clear h e1 hcond
      go_enter Tryd.func53, Tryd.ntmps53
      go_wp2_with fail
      refine (next_some HS.out i HI.out HV.out (by simp at hl; omega)).mono ?_
      rintro e w1 ⟨x, y, z, v', rfl, hr, hv', S1⟩
      obtain ⟨A, c, rfl, rfl, rfl⟩ := text_cells hr
      have HS1 := Lib.hid (S1.alloc (.cells #[.bool false, .string s, .slice A 0 c] 76))
      have HV1 := Lib.hid hv'
      clear S1 hr hv'
      rcases HC.out with h | ⟨h, h2⟩
      · have h' : decide (0 ≤ n) = false := by simp; omega
        clear HC
        go_wp2_with fail
        go_ret
        exact ⟨v', rfl, HV1.out, HS1.out.drop 0⟩
      · have h' : decide (0 ≤ n) = true := by simp; omega
        have h3 : ((s.size : Int) != n) = false := by rw [bne_eq_false_iff_eq]; exact h2
        clear HC h2
        go_wp2_with fail
        go_ret
        exact ⟨v', rfl, HV1.out, HS1.out.drop 0⟩
    · have e1 : txtR n (.text s :: l') = none := by simp only [txtR]; rw [if_neg h]
      rw [e1]
      have h' : decide (0 ≤ n) = true := by simp; omega
      have h0 : ¬ n < 0 := by omega
      have h3 : ((s.size : Int) != n) = true := by rw [bne_iff_ne]; intro e; exact h (.inr e)
      clear h e1
      go_enter Tryd.func53, Tryd.ntmps53
      go_wp2_with fail
      refine (next_some HS.out i HI.out HV.out (by simp at hl; omega)).mono ?_
      rintro e w1 ⟨x, y, z, v', rfl, hr, hv', S1⟩
      obtain ⟨A, c, rfl, rfl, rfl⟩ := text_cells hr
      have HS1 := Lib.hid ((S1.drop 0).alloc (.cells #[.bool false, .string s, .slice A 0 c] 76))
      clear S1 hr hv'
      go_wp2_with fail
      exact bodyPost_pan rfl ⟨rfl, HS1.out.drop 0⟩
theorem fnumber_any (l : List It) (hl : l.length ≤ 65536) (S : St H0 w0 X H w ps) (i : Nat) {v : Value} (hi : ps[i]? = some (blk q (fldO v))) (hv : RepV H v (.sl 3 l.length (itsD l))) :
    Calls Tryd.prog 51 #[.pointer (some ⟨q, 0, none⟩)] w (FldP ((numR l).map fun x => (.int .u64 x.1, x.2)) H0 H w0 X q (ps.eraseIdx i)) := by
  have hp : ∀ w, (Instr.panic (.iface 106 (.agg #[]))).run Tryd.prog w = .halt (.panic (.iface 106 (.agg #[]))) w := fun _ => rfl
  have HS := Lib.hid S
  have HI := Lib.hid hi
  have HV := Lib.hid hv
  clear S hi hv
  match l with
  | [] =>
    go_enter Tryd.func51, Tryd.ntmps51
    go_wp2_with fail
    refine (next_none HS.out i HI.out HV.out).mono ?_
    rintro e w1 ⟨rfl, S1⟩
    go_wp2_with fail
    exact bodyPost_pan rfl ⟨rfl, S1⟩
  | .list k :: l' =>
    go_enter Tryd.func51, Tryd.ntmps51
    go_wp2_with fail
    refine (next_some HS.out i HI.out HV.out (by simp at hl; omega)).mono ?_
    rintro e w1 ⟨x, y, z, v', rfl, hr, _, S1⟩
    obtain ⟨A, c, rfl, rfl, rfl, _⟩ := list_cells hr
    have HS1 := Lib.hid (S1.drop 0)
    clear S1 hr
    go_wp2_with fail
    refine (small_list _ _ _ _ _).mono ?_
    rintro e w2 ⟨rfl, hb2⟩
    have HS2 := Lib.hid (HS1.out.grow hb2)
    clear hb2
    go_wp2_with fail
    exact bodyPost_pan rfl ⟨rfl, HS2.out⟩
  | .text s :: l' =>
    have e1 : numR (.text s :: l') = if smallOk s then some (smallR s, l') else none := rfl
    rw [e1]
    obtain ⟨b, HB⟩ : ∃ b, Hid (b = smallOk s) := ⟨_, rfl⟩
    rw [← HB.out]
    clear e1
    go_enter Tryd.func51, Tryd.ntmps51
    go_wp2_with fail
    refine (next_some HS.out i HI.out HV.out (by simp at hl; omega)).mono ?_
    rintro e w1 ⟨x, y, z, v', rfl, hr, hv', S1⟩
    obtain ⟨A, c, rfl, rfl, rfl⟩ := text_cells hr
    have HS1 := Lib.hid S1
    have HV1 := Lib.hid hv'
    clear S1 hr hv'
    go_wp2_with fail
    refine (small_text _ _ _ _ _).mono ?_
    rintro e w2 ⟨rfl, hb2⟩
    have HS2 := Lib.hid (HS1.out.grow hb2)
    clear hb2
    rw [← HB.out]
    clear HB
    cases b
    · go_wp2_with fail
      exact bodyPost_pan rfl ⟨rfl, HS2.out.drop 0⟩
    · go_wp2_with fail
      go_ret
      exact ⟨v', rfl, HV1.out, HS2.out⟩
theorem fword_any (l : List It) (hl : l.length ≤ 65536) (S : St H0 w0 X H w ps) (i : Nat) {v : Value} (hi : ps[i]? = some (blk q (fldO v))) (hv : RepV H v (.sl 3 l.length (itsD l))) :
    Calls Tryd.prog 52 #[.pointer (some ⟨q, 0, none⟩)] w (FldP ((txtR 32 l).map fun x => (ofV x.1, x.2)) H0 H w0 X q (ps.eraseIdx i)) := by
  have HS := Lib.hid (S.alloc (.cells #[.int .u64 0, .int .u64 0, .int .u64 0, .int .u64 0] 24))
  have HI := Lib.hid hi
  have HV := Lib.hid hv
  clear S hi hv
  go_enter Tryd.func52, Tryd.ntmps52
  go_wp2_with fail
  refine (ftext_any l hl 32 HS.out (i + 1) HI.out HV.out).mono ?_
  intro e w1 hM
  cases ht : txtR 32 l with
  | none =>
    rw [ht] at hM
    obtain ⟨rfl, S1⟩ := hM
    have HT := Lib.hid ht
    clear ht
    go_wp2_with fail
    exact bodyPost_pan rfl (by rw [HT.out]; exact ⟨rfl, S1.drop 0⟩)
  | some x =>
    obtain ⟨s, l'⟩ := x
    rw [ht] at hM
    obtain ⟨v', rfl, hv', S1⟩ := hM
    have ht' := ht
    have h32 : s.size = 32 := by
      unfold txtR at ht
      split at ht
      · split at ht
        · rename_i h
          cases ht
          omega
        · cases ht
      · cases ht
    have H32 := Lib.hid h32
    have HT := Lib.hid (show txtR 32 l = some (s, l') from ht')
    have HS1 : Hid (St H0 w0 X H w1 (blk q (fldO v') :: blk w.heap.size (.cells #[.int .u64 0, .int .u64 0, .int .u64 0, .int .u64 0] 24) :: ps.eraseIdx i)) := S1
    have HV1 := Lib.hid hv'
    clear ht ht' hv' S1 HS h32
    go_wp2_with fail
    refine (of_any s (by rw [H32.out]; decide) _).mono ?_
    rintro e w2 ⟨rfl, hb2⟩
    obtain ⟨a, ha⟩ : ∃ a, a = ofL s s.size 3 := ⟨_, rfl⟩
    obtain ⟨b, hb⟩ : ∃ b, b = ofL s s.size 2 := ⟨_, rfl⟩
    obtain ⟨c, hc⟩ : ∃ c, c = ofL s s.size 1 := ⟨_, rfl⟩
    obtain ⟨d, hd⟩ : ∃ d, d = ofL s s.size 0 := ⟨_, rfl⟩
    rw [← ha, ← hb, ← hc, ← hd]
    have HE := Lib.hid (show (.agg #[.int .u64 a, .int .u64 b, .int .u64 c, .int .u64 d] : Value) = ofV s by rw [ha, hb, hc, hd]; rfl)
    have HS2 := Lib.hid ((HS1.out.grow hb2).alloc (.cells #[.int .u64 a, .int .u64 b, .int .u64 c, .int .u64 d] 24))
    clear hb2 ha hb hc hd HS1
    go_wp2_with (first
      | (refine wpList_store_st (cs := #[.int .u64 a, .int .u64 b, .int .u64 c, .int .u64 d]) 2 HS2.out rfl rfl 24 (.tmp 2) (.tmp 11) rfl rfl rfl szWord rfl (oneW _ _ _ _) ?_)
      | fail)
    intro w4 S4
    go_wp2_with fail
    exact post_cell 0 S4 rfl Tryd.results52 rfl _ Tryd.underlying24 rfl szWord rfl (by rw [HT.out]; exact ⟨v', congrArg Ending.returned HE.out, HV1.out, (S4.drop 0).drop 0⟩)
end
end Go.Proofs.YtfphlkkhpccpnaaDoor
