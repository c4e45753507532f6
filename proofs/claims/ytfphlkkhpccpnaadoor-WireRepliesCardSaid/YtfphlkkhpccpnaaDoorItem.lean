/-
  Items: as data; how they are written.
-/
import Derived.Test.YtfphlkkhpccpnaaDoorNum
import Derived.Test.YtfphlkkhpccpnaaDoorBld
namespace Go.Proofs.YtfphlkkhpccpnaaDoor
open Go.RowKit Go.Proofs K

theorem numL_len (n : Int) : (numL n).length ≤ 8 := by
  unfold numL Lib.trimLeftB
  exact Nat.le_trans (List.dropWhile_sublist _).length_le (by simp [nbS, strOfNums, nbL])
/-- What stands ahead of n bytes. -/
def aheadL (base n : Nat) : List UInt8 := if n ≤ 55 then [UInt8.ofNat (base + n)] else UInt8.ofNat (base + 55 + (numL (n : Int)).length) :: numL (n : Int)
def aheadS (base n : Nat) : ByteArray := ⟨(aheadL base n).toArray⟩

theorem bytes_ext {a b : ByteArray} (h : a.data.toList = b.data.toList) : a = b := ByteArray.ext (Array.toList_inj.1 h)
theorem data_append (a b : ByteArray) : (a ++ b).data.toList = a.data.toList ++ b.data.toList := by
  rw [ByteArray.data_append, Array.toList_append]
theorem data_mk (l : List UInt8) : (⟨l.toArray⟩ : ByteArray).data.toList = l := rfl
theorem cat_one (x : Int) (n : Int) : strOfNums [x] ++ numS n = ⟨(UInt8.ofNat x.toNat :: numL n).toArray⟩ := bytes_ext (by rw [data_append]; rfl)
set_option maxRecDepth 100000 in
theorem ahead_any (base n : Nat) (hb : base ≤ 192) (hn : n ≤ 140737488355328) (w : World) : Calls Tryd.prog 89 #[.int .u8 base, .int .i64 n] w (RetV (.string (aheadS base n)) w) := by
  by_cases h : n ≤ 55
  · have hconv := run_convert_bytes_arg (w.alloc (.cells #[.int .u8 ((base : Int) + n)] 5)) 33 5 Tryd.underlying33 Tryd.underlying5 w.heap.size 0 1 1 [(base : Int) + n] rfl (fun i hi => by
      rw [cell_of_row _ _ _ _ _ _ (heap_alloc_new w _)]
      obtain rfl : i = 0 := by omega
      rfl) 9 Tryd.underlying9
    go_enter Tryd.func89, Tryd.ntmps89
    go_wp2
    go_ret
    refine ⟨?_, (Below.refl _ _).alloc (Nat.le_refl _) _⟩
    rw [aheadS, aheadL, if_pos h]
    rfl
  · go_enter Tryd.func89, Tryd.ntmps89
    go_wp2_with fail
    refine (number_any _ _).mono ?_
    rintro e w1 ⟨rfl, hb1⟩
    have hl := numL_len (n : Int)
    have hsz : (numS (n : Int)).size = (numL (n : Int)).length := by simp [numS, ByteArray.size]
    have hs8 : (numS (n : Int)).size ≤ 8 := by omega
    have hconv := run_convert_bytes_arg (w1.alloc (.cells #[.int .u8 ((base : Int) + 55 + (numS (n : Int)).size)] 5)) 33 5 Tryd.underlying33 Tryd.underlying5 w1.heap.size 0 1 1 [(base : Int) + 55 + (numS (n : Int)).size] rfl (fun i hi => by
      rw [cell_of_row _ _ _ _ _ _ (heap_alloc_new w1 _)]
      obtain rfl : i = 0 := by omega
      rfl) 9 Tryd.underlying9
    have hcat : (strOfNums [(base : Int) + 55 + (numS (n : Int)).size]).size + (numS (n : Int)).size ≤ 9223372036854775807 := by rw [strOfNums_size]; simp; omega
    have HZ := Lib.hid hsz
    clear hsz
    go_wp2_with fail
    go_ret
    refine ⟨?_, hb1.alloc hb1.size _⟩
    rw [HZ.out, cat_one, aheadS, aheadL, if_neg h]
    congr 6

/-- An item: a text, or a list. -/
inductive It where
  | text (s : ByteArray)
  | list (l : List It)
mutual
def It.d : It → List D
  | .text s => [.v (.bool false), .v (.string s), .sl 3 0 []]
  | .list l => [.v (.bool true), .v (.string ⟨#[]⟩), .sl 3 l.length (itsD l)]
def itsD : List It → List D
  | [] => []
  | i :: l => i.d ++ itsD l
end
theorem It.d_length (i : It) : i.d.length = 3 := by cases i <;> simp [It.d]
theorem itsD_flat : ∀ l : List It, itsD l = l.flatMap It.d
  | [] => by simp [itsD]
  | i :: l => by rw [itsD, List.flatMap_cons, itsD_flat l]
theorem itsD_length (l : List It) : (itsD l).length = l.length * 3 := by rw [itsD_flat, flat_length It.d_length]
/-- Its bytes. -/
def textL (s : ByteArray) : List UInt8 := match s.data.toList with | [c] => if c < 128 then [c] else aheadL 128 1 ++ [c] | l => aheadL 128 l.length ++ l
mutual
def It.enc : It → List UInt8
  | .text s => textL s
  | .list l => aheadL 192 (encL l).length ++ encL l
def encL : List It → List UInt8
  | [] => []
  | i :: l => i.enc ++ encL l
end
theorem encL_flat : ∀ l : List It, encL l = l.flatMap It.enc
  | [] => by simp [encL]
  | i :: l => by rw [encL, List.flatMap_cons, encL_flat l]
theorem encL_take (l : List It) {k : Nat} (h : k < l.length) : encL (l.take (k + 1)) = encL (l.take k) ++ l[k].enc := by
  rw [encL_flat, encL_flat, List.take_succ_eq_append_getElem h, List.flatMap_append]
  simp
theorem encL_take_le (l : List It) (k : Nat) : (encL (l.take k)).length ≤ (encL l).length := by
  have h : encL l = encL (l.take k) ++ encL (l.drop k) := by rw [encL_flat, encL_flat, encL_flat, ← List.flatMap_append, List.take_append_drop]
  rw [h, List.length_append]
  omega
/-- What a list's k-th is, in memory. -/
theorem its_at {H : Hs} {cs : List Value} {l : List It} (h : RepL H cs (itsD l)) {k : Nat} (hk : k < l.length) : ∃ x y z, cs[k * 3]? = some x ∧ cs[k * 3 + 1]? = some y ∧ cs[k * 3 + 2]? = some z ∧ RepL H [x, y, z] l[k].d := by
  rw [itsD_flat] at h
  have g : ∀ {j : Nat} {d : D}, l[k].d[j]? = some d → ∃ x, cs[k * 3 + j]? = some x ∧ RepV H x d := fun {j d} hd => h.get (by
    rw [flat_get It.d_length (List.getElem?_eq_getElem hk) (by have := (List.getElem?_eq_some_iff.1 hd).1; rw [It.d_length] at this; exact this)]
    exact hd)
  obtain ⟨d0, d1, d2, hd⟩ : ∃ d0 d1 d2, l[k].d = [d0, d1, d2] := by
    cases l[k] with
    | text s => exact ⟨_, _, _, rfl⟩
    | list l => exact ⟨_, _, _, rfl⟩
  rw [hd] at g ⊢
  obtain ⟨x, hx, rx⟩ := g (j := 0) rfl
  obtain ⟨y, hy, ry⟩ := g (j := 1) rfl
  obtain ⟨z, hz, rz⟩ := g (j := 2) rfl
  exact ⟨x, y, z, hx, hy, hz, .cons rx (.cons ry (.cons rz .nil))⟩

theorem it_cells {H : Hs} {x y z : Value} : ∀ {i : It}, RepL H [x, y, z] i.d → ∃ p s A n c, x = .bool p ∧ y = .string s ∧ z = .slice A n c
  | .text s, h => by
    obtain ⟨_, e, h⟩ := RepL.pl_inv h
    cases e
    obtain ⟨_, e, h⟩ := RepL.pl_inv h
    cases e
    obtain ⟨_, _, e, h, _⟩ := h.cons_inv
    cases e
    obtain ⟨A, c, _, rfl, _⟩ := h.sl_inv
    exact ⟨_, _, _, _, _, rfl, rfl, rfl⟩
  | .list l, h => by
    obtain ⟨_, e, h⟩ := RepL.pl_inv h
    cases e
    obtain ⟨_, e, h⟩ := RepL.pl_inv h
    cases e
    obtain ⟨_, _, e, h, _⟩ := h.cons_inv
    cases e
    obtain ⟨A, c, _, rfl, _⟩ := h.sl_inv
    exact ⟨_, _, _, _, _, rfl, rfl, rfl⟩
/-- Writing an item puts its bytes behind what a builder holds. -/
def ItemOk (i : It) : Prop := ∀ (H0 H : Hs) (w0 w : World) (X : Nat → Prop) (ps : List Hp) (T : TypeId) (b : Nat) (acc : List UInt8) (j : Nat) (x y z : Value), St H0 w0 X H w ps → ps[j]? = some (bldP T b acc) → BT T → RepL H [x, y, z] i.d → acc.length + i.enc.length ≤ 1099511627776 →
  Calls Tryd.prog 63 #[.pointer (some ⟨b, 0, none⟩), .agg #[x, y, z]] w (RetS (.tuple #[]) H0 H w0 X (bldP T b (acc ++ i.enc) :: ps.eraseIdx j))

set_option maxRecDepth 100000 in
theorem each_st (l : List It) (hall : ∀ i ∈ l, ItemOk i) {H0 H : Hs} {w0 w : World} {X : Nat → Prop} {ps : List Hp} {T : TypeId} {b : Nat} {acc : List UInt8} (S : St H0 w0 X H w ps) (j : Nat) (hj : ps[j]? = some (bldP T b acc)) (hT : BT T) (v : Value) (hv : RepV H v (.sl 3 l.length (itsD l))) (hl : l.length ≤ 1099511627776) (hn : acc.length + (encL l).length ≤ 1099511627776) :
    Calls Tryd.prog 87 #[v, .func (.func 63) #[.pointer (some ⟨b, 0, none⟩)] #[]] w (RetS (.tuple #[]) H0 H w0 X (bldP T b (acc ++ encL l) :: ps.eraseIdx j)) := by
  obtain ⟨A, c, cs, rfl, hnc, hA, hlen, hr, hd⟩ := hv.sl_inv
  have HS := Lib.hid (S.pick j hj)
  have HR := Lib.hid hr
  have HD := Lib.hid hd
  have HALL := Lib.hid hall
  have HT := Lib.hid hT
  clear S hv hr hd hlen hall hA hT
  go_enter Tryd.func87, Tryd.ntmps87
  go_wp2_with fail
  go_loopw [8] (fun i wr => ∃ k : Nat, i = .int .i64 k ∧ k ≤ l.length ∧ Hid (St H0 w0 X H wr (bldP T b (acc ++ encL (l.take k)) :: ps.eraseIdx j))) (fun i _ => l.length - (intOf i).toNat)
  case atStart => exact ⟨0, rfl, by omega, by simpa [encL] using HS⟩
  case round =>
    clear HS
    obtain ⟨k, rfl, hk, HS⟩ := hrel
    by_cases hlt : k < l.length
    · obtain ⟨x, y, z, hx, hy, hz, hxyz⟩ := its_at HD.out hlt
      obtain ⟨p, s, A', n', c', rfl, rfl, rfl⟩ := it_cells hxyz
      have HX := Lib.hid hxyz
      clear hxyz
      obtain ⟨b0, o, rfl, hb0, hcell⟩ := HR.out.cells HS.out.ag (by rintro rfl; simp at hx)
      have h0 := hcell _ _ hx
      have h1 := hcell _ _ hy
      have h2 := hcell _ _ hz
      rw [← Nat.add_assoc] at h1 h2
      clear hcell hx hy hz
      have HS1 := Lib.hid (HS.out.alloc (.cells #[.bool p, .string s, .slice A' n' c'] 76))
      have hle := encL_take_le l (k + 1)
      have he := encL_take l hlt
      have hb1 : (acc ++ encL (l.take k)).length + l[k].enc.length ≤ 1099511627776 := by
        rw [he, List.length_append] at hle
        rw [List.length_append]
        omega
      have HE := Lib.hid he
      clear he HS
      go_wp2_with fail
      refine (HALL.out _ (List.getElem_mem hlt) H0 H w0 _ X _ T b _ 1 _ _ _ HS1.out rfl HT.out HX.out hb1).mono ?_
      rintro e w2 ⟨rfl, S2⟩
      have HS2 := Lib.hid (S2.drop 1)
      clear S2 HS1
      go_wp2_with fail
      go_roundw
      case rel => exact ⟨k + 1, by go_num, by omega, by rw [HE.out, ← List.append_assoc]; exact HS2⟩
      case measure => simp [intOf]; omega
    · obtain rfl : k = l.length := by omega
      go_wp2_with fail
      go_end0
      rw [List.take_length] at HS
      exact ⟨rfl, HS.out⟩
end Go.Proofs.YtfphlkkhpccpnaaDoor
