/-
  Lists are written; Encode.
-/
import Derived.Test.YtfphlkkhpccpnaaDoorEnc
namespace Go.Proofs.YtfphlkkhpccpnaaDoor
open Go.RowKit Go.Proofs K

theorem bt_writer : BT 121 := by unfold BT; kernel_rfl
theorem string_any {H0 H : Hs} {w0 w : World} {X : Nat → Prop} {ps : List Hp} {T : TypeId} {b : Nat} {l : List UInt8} (S : St H0 w0 X H w ps) (i : Nat) (hi : ps[i]? = some (bldP T b l)) :
    Calls Tryd.prog 64 #[.pointer (some ⟨b, 0, none⟩)] w (RetS (.string ⟨l.toArray⟩) H0 H w0 X (ps.eraseIdx i)) := by
  by_cases h : l = []
  · subst h
    exact string0_st S i hi
  · exact string_st S i hi h
theorem cat_two (base n : Nat) (l : List UInt8) : (aheadS base n ++ (⟨l.toArray⟩ : ByteArray)).data.toList = aheadL base n ++ l := by rw [data_append]; rfl

set_option maxRecDepth 100000 in
theorem item_list (l : List It) (hall : ∀ i ∈ l, ItemOk i) (hl : l.length ≤ 1099511627776) : ItemOk (.list l) := by
  intro H0 H w0 w X ps T b acc j x y z S hj hT h hn
  obtain ⟨A, c, rfl, rfl, rfl, hz⟩ := list_cells h
  have HS1 := Lib.hid (S.alloc (.cells #[.bool true, .string ⟨#[]⟩, .slice A l.length c] 76))
  have hn2 : (aheadL 192 (encL l).length).length + (encL l).length + acc.length ≤ 1099511627776 := by
    unfold It.enc at hn
    rw [List.length_append] at hn
    omega
  have h9 := aheadL_len 192 (encL l).length
  have h91 := aheadS_size 192 (encL l).length
  have hsz : (⟨(encL l).toArray⟩ : ByteArray).size = (encL l).length := by simp [ByteArray.size]
  have HN2 : Hid (acc.length + (aheadS 192 (encL l).length ++ (⟨(encL l).toArray⟩ : ByteArray)).size ≤ 140737488355328) := by
    unfold Hid
    rw [ByteArray.size_append]
    omega
  have hcat : (aheadS 192 (encL l).length).size + (⟨(encL l).toArray⟩ : ByteArray).size ≤ 9223372036854775807 := by omega
  have hlen : (encL l).length ≤ 140737488355328 := by omega
  have hcat2 : (aheadS 192 (encL l).length).size + (encL l).length ≤ 9223372036854775807 := by omega
  have HLE : Hid (([] : List UInt8).length + (encL l).length ≤ 1099511627776) := by unfold Hid; simp; omega
  have HI : Hid (St H (w.alloc (.cells #[.bool true, .string ⟨#[]⟩, .slice A l.length c] 76)) none_ H ((w.alloc (.cells #[.bool true, .string ⟨#[]⟩, .slice A l.length c] 76)).alloc (.cells #[.pointer none, .slice none 0 0] 121)) [bldP 121 (w.heap.size + 1) []]) := by
    have := newBld (St.start HS1.out.ag) 121
    rw [World.size_alloc] at this
    exact this
  have HJ := Lib.hid hj
  have HT := Lib.hid hT
  have HN := Lib.hid hn
  have HALL := Lib.hid hall
  have HZ := Lib.hid hz
  clear S h hj hT hn hall hz hsz h91 hn2
  go_enter Tryd.func63, Tryd.ntmps63
  go_wp2_with fail
  refine (each_st l HALL.out HI.out 0 rfl bt_writer _ HZ.out hl HLE.out).mono ?_
  rintro e w2 ⟨rfl, S2⟩
  have HS2 : Hid (St H (w.alloc (.cells #[.bool true, .string ⟨#[]⟩, .slice A l.length c] 76)) none_ H w2 [bldP 121 (w.heap.size + 1) (encL l)]) := S2
  clear S2 HI
  go_wp2_with fail
  go_region_with (first
    | (go_at_call 90; refine (len_st (HS2.out.drew) 0 rfl).mono ?_; rintro e w3 ⟨rfl, S3⟩)
    | (go_at_call 89; refine (ahead192 _ hlen _).mono ?_; rintro e w4 ⟨rfl, hb4⟩)
    | (go_at_call 64; refine (string_any (S3.grow hb4) 0 rfl).mono ?_; rintro e w5 ⟨rfl, S5⟩)
    | (go_at_call 88; refine (writeString_h (HS1.out.more S5) j HJ.out HT.out (aheadS 192 (encL l).length ++ (⟨(encL l).toArray⟩ : ByteArray)) HN2.out).mono ?_; rintro e w6 ⟨rfl, S6⟩))
  all_goals
    go_wp2_with fail
    go_end0
    refine ⟨rfl, ?_⟩
    have := S6.drop 0
    unfold It.enc
    rw [cat_two] at this
    exact this

mutual
/-- An item of which each list is short. -/
def It.short : It → Prop
  | .text _ => True
  | .list l => l.length ≤ 1099511627776 ∧ shortL l
def shortL : List It → Prop
  | [] => True
  | i :: l => i.short ∧ shortL l
end
mutual
theorem item_ok : ∀ i : It, i.short → ItemOk i
  | .text s, _ => by
    by_cases h : s.size = 1 ∧ ∃ h : 0 < s.size, s[0].toNat < 128
    · exact item_one s h.1 h.2.2
    · refine item_head s ?_
      by_cases h1 : s.size = 1
      · have h0 : 0 < s.size := by omega
        exact .inr ⟨h0, fun h2 => h ⟨h1, h0, h2⟩⟩
      · exact .inl h1
  | .list l, h => item_list l (items_ok l h.2) h.1
theorem items_ok : ∀ l : List It, shortL l → ∀ i ∈ l, ItemOk i
  | [], _, i, hi => by simp at hi
  | x :: l, h, i, hi => by
    rcases List.mem_cons.1 hi with e | hi
    · rw [e]; exact item_ok x h.1
    · exact items_ok l h.2 i hi
end

theorem enc_ne (i : It) : i.enc ≠ [] := by
  have ha : ∀ b n, aheadL b n ≠ [] := fun b n => by unfold aheadL; split <;> simp
  cases i with
  | text s =>
    unfold It.enc
    unfold textL
    split
    · split
      · simp
      · simp [ha]
    · simp [ha]
  | list l => unfold It.enc; simp [ha]
def It.bytes (i : It) : ByteArray := ⟨i.enc.toArray⟩
set_option maxRecDepth 100000 in
theorem encode_any (i : It) (hs : i.short) (hn : i.enc.length ≤ 1099511627776) {H : Hs} {w : World} (hw : Ag H w) (x y z : Value) (h : RepL H [x, y, z] i.d) :
    Calls Tryd.prog 36 #[.agg #[x, y, z]] w (RetV (.string i.bytes) w) := by
  obtain ⟨p, s, A, n, c, rfl, rfl, rfl⟩ := it_cells h
  have HI : Hid (St H w none_ H ((w.alloc (.cells #[.bool p, .string s, .slice A n c] 76)).alloc (.cells #[.pointer none, .slice none 0 0] 121)) [bldP 121 (w.heap.size + 1) [], blk w.heap.size (.cells #[.bool p, .string s, .slice A n c] 76)]) := by
    have := newBld ((St.start hw).alloc (.cells #[.bool p, .string s, .slice A n c] 76)) 121
    rw [World.size_alloc] at this
    exact this
  have HH := Lib.hid h
  have HOK := Lib.hid (item_ok i hs)
  have HN : Hid (([] : List UInt8).length + i.enc.length ≤ 1099511627776) := by unfold Hid; simp; omega
  clear h hs hn hw
  go_enter Tryd.func36, Tryd.ntmps36
  go_wp2_with fail
  refine (HOK.out H H w _ none_ _ _ _ _ 0 _ _ _ HI.out rfl bt_writer HH.out HN.out).mono ?_
  rintro e w2 ⟨rfl, S2⟩
  have HS2 := Lib.hid S2
  clear S2 HI
  go_wp2_with fail
  refine (string_any HS2.out 0 rfl).mono ?_
  rintro e w3 ⟨rfl, S3⟩
  have HB := Lib.hid S3.below
  clear S3 HS2
  go_wp2_with fail
  go_ret
  exact ⟨rfl, HB.out⟩
end Go.Proofs.YtfphlkkhpccpnaaDoor
