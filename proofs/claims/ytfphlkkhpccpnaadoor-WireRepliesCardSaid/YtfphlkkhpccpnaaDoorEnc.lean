/-
  Items are written.
-/
import Derived.Test.YtfphlkkhpccpnaaDoorItem
import Derived.Deep.RegionWith
import Derived.Deep.RegionHeld3
namespace Go.Proofs.YtfphlkkhpccpnaaDoor
open Go.RowKit Go.Proofs K

theorem text_cells {H : Hs} {x y z : Value} {s : ByteArray} (h : RepL H [x, y, z] (It.text s).d) : ∃ A c, x = .bool false ∧ y = .string s ∧ z = .slice A 0 c := by
  obtain ⟨_, e, h⟩ := RepL.pl_inv h
  cases e
  obtain ⟨_, e, h⟩ := RepL.pl_inv h
  cases e
  obtain ⟨_, _, e, h, _⟩ := h.cons_inv
  cases e
  obtain ⟨A, c, _, rfl, _⟩ := h.sl_inv
  exact ⟨A, c, rfl, rfl, rfl⟩
theorem list_cells {H : Hs} {x y z : Value} {l : List It} (h : RepL H [x, y, z] (It.list l).d) : ∃ A c, x = .bool true ∧ y = .string ⟨#[]⟩ ∧ z = .slice A l.length c ∧ RepV H (.slice A l.length c) (.sl 3 l.length (itsD l)) := by
  obtain ⟨_, e, h⟩ := RepL.pl_inv h
  cases e
  obtain ⟨_, e, h⟩ := RepL.pl_inv h
  cases e
  obtain ⟨_, _, e, h, _⟩ := h.cons_inv
  cases e
  obtain ⟨A, c, _, rfl, _⟩ := h.sl_inv
  exact ⟨A, c, rfl, rfl, rfl, h⟩
/-- The two ways of a text. -/
theorem textL_one {s : ByteArray} (h : s.size = 1) (h2 : s[0].toNat < 128) : textL s = s.data.toList := by
  obtain ⟨⟨l⟩⟩ := s
  match l, h with
  | [c], _ => 
    have : c < 128 := h2
    simp [textL, this]
theorem textL_big {s : ByteArray} (h : s.size = 1) (h2 : ¬ s[0].toNat < 128) : textL s = aheadL 128 1 ++ s.data.toList := by
  obtain ⟨⟨l⟩⟩ := s
  match l, h with
  | [c], _ => 
    have : ¬ c < 128 := h2
    simp [textL, this]
theorem textL_other {s : ByteArray} (h : s.size ≠ 1) : textL s = aheadL 128 s.size ++ s.data.toList := by
  obtain ⟨⟨l⟩⟩ := s
  match l, h with
  | [], _ => rfl
  | [c], h => exact absurd rfl h
  | a :: b :: l, _ => rfl
theorem aheadL_len (base n : Nat) : (aheadL base n).length ≤ 9 := by
  unfold aheadL
  split
  · simp
  · have := numL_len (n : Int)
    simp
    omega
theorem aheadS_size (base n : Nat) : (aheadS base n).size = (aheadL base n).length := by simp [aheadS, ByteArray.size]

theorem writeString_h {H0 H : Hs} {w0 w : World} {X : Nat → Prop} {ps : List Hp} {T : TypeId} {b : Nat} {l : List UInt8} {q : Hp} (S : St H0 w0 X H w (q :: ps)) (j : Nat) (hj : ps[j]? = some (bldP T b l)) (hT : BT T) (s : ByteArray) (hn : l.length + s.size ≤ 140737488355328) :
    Calls Tryd.prog 88 #[.pointer (some ⟨b, 0, none⟩), .string s] w (RetS (.tuple #[.int .i64 s.size, .nilIface]) H0 H w0 X (q :: bldP T b (l ++ s.data.toList) :: ps.eraseIdx j)) := by
  refine (writeString_st S (j + 1) (by simpa using hj) hT s hn).mono ?_
  rintro e w' ⟨he, S2⟩
  refine ⟨he, ?_⟩
  rw [List.eraseIdx_cons_succ] at S2
  exact S2.pick 1 rfl
theorem ahead128 (n : Nat) (hn : n ≤ 140737488355328) (w : World) : Calls Tryd.prog 89 #[.int .u8 128, .int .i64 n] w (RetV (.string (aheadS 128 n)) w) := ahead_any 128 n (by decide) hn w
theorem ahead192 (n : Nat) (hn : n ≤ 140737488355328) (w : World) : Calls Tryd.prog 89 #[.int .u8 192, .int .i64 n] w (RetV (.string (aheadS 192 n)) w) := ahead_any 192 n (by decide) hn w
set_option maxRecDepth 100000 in
theorem item_one (s : ByteArray) (h1 : s.size = 1) (h2 : s[0].toNat < 128) : ItemOk (.text s) := by
  intro H0 H w0 w X ps T b acc j x y z S hj hT h hn
  obtain ⟨A, c, rfl, rfl, rfl⟩ := text_cells h
  have HS1 := Lib.hid (S.alloc (.cells #[.bool false, .string s, .slice A 0 c] 76))
  have HJ := Lib.hid hj
  have HT := Lib.hid hT
  have HN := Lib.hid hn
  clear S h hj hT hn
  have h0 : 0 < s.size := by omega
  have HTX := Lib.hid (textL_one h1 h2)
  have h3 : (s[0].toNat : Int) < 128 := by omega
  have HN2 : Hid (acc.length + s.size ≤ 140737488355328) := by have := HN.out; unfold Hid; omega
  go_enter Tryd.func63, Tryd.ntmps63
  go_wp2_with fail
  go_region_with (go_at_call 88; refine (writeString_st (HS1.out.drew) (j + 1) HJ.out HT.out s HN2.out).mono ?_; rintro e w2 ⟨rfl, S2⟩)
  all_goals
    go_wp2_with fail
    go_end0
    exact ⟨rfl, by have := S2.drop 1; unfold It.enc; rw [HTX.out]; exact this⟩
/-- A text that has a head. -/
def headed (s : ByteArray) (p : Bool) : Prop := (p = true ∧ s.size = 1 ∧ ∃ h : 0 < s.size, ¬ s[0].toNat < 128) ∨ (p = false ∧ s.size ≠ 1)
theorem textL_head {s : ByteArray} (h : s.size ≠ 1 ∨ ∃ h : 0 < s.size, ¬ s[0].toNat < 128) : textL s = aheadL 128 s.size ++ s.data.toList := by
  by_cases h1 : s.size = 1
  · rcases h with h | ⟨h0, h⟩
    · exact absurd h1 h
    · rw [textL_big h1 h, h1]
  · exact textL_other h1
set_option maxRecDepth 100000 in
theorem item_head (s : ByteArray) (hh : s.size ≠ 1 ∨ ∃ h : 0 < s.size, ¬ s[0].toNat < 128) : ItemOk (.text s) := by
  intro H0 H w0 w X ps T b acc j x y z S hj hT h hn
  obtain ⟨A, c, rfl, rfl, rfl⟩ := text_cells h
  have HS1 := Lib.hid (S.alloc (.cells #[.bool false, .string s, .slice A 0 c] 76))
  have HJ := Lib.hid hj
  have HT := Lib.hid hT
  have HN := Lib.hid hn
  clear S h hj hT hn
  have HTX := Lib.hid (textL_head hh)
  have hsz : s.size ≤ 1099511627776 := by
    have := HN.out
    unfold It.enc at this
    rw [HTX.out, List.length_append] at this
    simp at this
    omega
  have HN2 : Hid (acc.length + (aheadS 128 s.size ++ s).size ≤ 140737488355328) := by
    have := HN.out
    have h5 := aheadL_len 128 s.size
    have h6 := aheadS_size 128 s.size
    unfold Hid
    rw [ByteArray.size_append]
    omega
  have hcat : (aheadS 128 s.size).size + s.size ≤ 9223372036854775807 := by
    have h5 := aheadL_len 128 s.size
    have h6 := aheadS_size 128 s.size
    omega
  have hs47 : s.size ≤ 140737488355328 := by omega
  have hcatF : (9223372036854775807 < (aheadS 128 s.size).size + s.size) = False := eq_false (by omega)
  by_cases h1 : s.size = 1
  · obtain ⟨h0, h2⟩ : ∃ h : 0 < s.size, ¬ s[0].toNat < 128 := hh.resolve_left (fun h => h h1)
    have h3 : ¬ (s[0].toNat : Int) < 128 := by omega
    have h4 : ((s.size : Int) == 1) = true := by rw [beq_iff_eq]; omega
    clear hh h1
    go_enter Tryd.func63, Tryd.ntmps63
    go_wp2_with fail
    have hc0 : (w.alloc (.cells #[.bool false, .string s, .slice A 0 c] 76)).drew.cell? ⟨w.heap.size, 1, none⟩ = some (.string s) := HS1.out.drew.cell 0 rfl rfl
    go_region_held3 (fun w' => w'.cell? ⟨w.heap.size, 1, none⟩ = some (.string s)) (first | assumption | go_keep) (first
      | (go_at_call 89; refine (ahead128 s.size hs47 _).mono ?_; rintro e w1 ⟨rfl, hb1⟩; have hc1 : w1.cell? ⟨w.heap.size, 1, none⟩ = some (.string s) := (HS1.out.drew.grow hb1).cell 0 rfl rfl)
      | (go_at_call 88; refine (writeString_h (HS1.out.drew.grow hb1) j HJ.out HT.out (aheadS 128 s.size ++ s) HN2.out).mono ?_; rintro e w2 ⟨rfl, S2⟩; have hbk := S2.blk_at 0 rfl; have hc2 : w2.cell? ⟨w.heap.size, 1, none⟩ = some (.string s) := by rw [cell_of_row _ _ _ _ _ _ hbk]; rfl))
    all_goals
      go_wp2_with fail
      go_end0
      refine ⟨rfl, ?_⟩
      have := S2.drop 0
      unfold It.enc
      rw [data_append] at this
      rw [HTX.out]
      exact this
  · clear hh
    have h3 : ¬ (s.size : Int) = 1 := by omega
    go_enter Tryd.func63, Tryd.ntmps63
    go_wp2_with fail
    have hc0 : (w.alloc (.cells #[.bool false, .string s, .slice A 0 c] 76)).drew.cell? ⟨w.heap.size, 1, none⟩ = some (.string s) := HS1.out.drew.cell 0 rfl rfl
    go_region_held3 (fun w' => w'.cell? ⟨w.heap.size, 1, none⟩ = some (.string s)) (first | assumption | go_keep) (first
      | (go_at_call 89; refine (ahead128 s.size hs47 _).mono ?_; rintro e w1 ⟨rfl, hb1⟩; have hc1 : w1.cell? ⟨w.heap.size, 1, none⟩ = some (.string s) := (HS1.out.drew.grow hb1).cell 0 rfl rfl)
      | (go_at_call 88; refine (writeString_h (HS1.out.drew.grow hb1) j HJ.out HT.out (aheadS 128 s.size ++ s) HN2.out).mono ?_; rintro e w2 ⟨rfl, S2⟩; have hbk := S2.blk_at 0 rfl; have hc2 : w2.cell? ⟨w.heap.size, 1, none⟩ = some (.string s) := by rw [cell_of_row _ _ _ _ _ _ hbk]; rfl))
    all_goals
      go_wp2_with fail
      go_end0
      refine ⟨rfl, ?_⟩
      have := S2.drop 0
      unfold It.enc
      rw [data_append] at this
      rw [HTX.out]
      exact this
end Go.Proofs.YtfphlkkhpccpnaaDoor
