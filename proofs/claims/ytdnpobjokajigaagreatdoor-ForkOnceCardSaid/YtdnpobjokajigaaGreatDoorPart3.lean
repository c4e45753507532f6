/-
  Numbers, words and lists as items.
  PutAsk.
  Keys of maps: texts; asks.
  A reader: need, take.
-/
import Derived.Test.YtdnpobjokajigaaGreatDoorPart2
import Derived.Laws.StructEq
import Derived.Test.YtdnpobjokajigaaGreatDoorPart1
namespace Go.Proofs.YtdnpobjokajigaaGreatDoor
open Go.RowKit Go.Proofs K

theorem infoItem : (Tryz.prog.info? 123).map (fun i => (i.zero, i.size, i.bytes)) = some (some (.agg #[.bool false, .string ⟨#[]⟩, .slice none 0 0]), 3, 48) := by kernel_rfl
theorem szItem : (Tryz.prog.info? 123).map (·.size) = some 3 := by kernel_rfl
theorem oneItem (p : Bool) (s : ByteArray) (A : Option Addr) (n c : Nat) : (#[.bool p, .string s, .slice A n c] : Array Value).all (·.oneCell') = true := by simp [Value.oneCell']
theorem numberI_any (n : Int) (w : World) : Calls Tryz.prog 64 #[.int .u64 n] w (RetV (.agg #[.bool false, .string (numS n), .slice none 0 0]) w) := by
  go_enter Tryz.func64, Tryz.ntmps64
  have HS := Lib.hid ((St.start (ag_emp w)).alloc (.cells #[.bool false, .string ⟨#[]⟩, .slice none 0 0] 123))
  go_wp2_with fail
  refine (number_any n _).mono ?_
  rintro e w1 ⟨rfl, hb1⟩
  have HS1 := Lib.hid (HS.out.grow hb1)
  clear hb1 HS
  go_wp2_with fail
  refine (text_any _ _).mono ?_
  rintro e w2 ⟨rfl, hb2⟩
  have HS2 := Lib.hid (HS1.out.grow hb2)
  clear hb2 HS1
  go_wp2_with (first
    | (refine wpList_store_st (cs := #[.bool false, .string (numS n), .slice none 0 0]) 0 HS2.out rfl rfl 123 (.tmp 2) (.tmp 5) rfl rfl rfl szItem rfl (oneItem _ _ _ _ _) ?_)
    | fail)
  intro w4 S4
  go_wp2_with fail
  exact post_cell 0 S4 rfl Tryz.results64 rfl _ Tryz.underlying123 rfl szItem rfl ⟨rfl, S4.below⟩
theorem whole_any (a b c d : Int) (w : World) : Calls Tryz.prog 65 #[.agg #[.int .u64 a, .int .u64 b, .int .u64 c, .int .u64 d]] w (RetV (.agg #[.bool false, .string (wordS a b c d), .slice none 0 0]) w) := by
  go_enter Tryz.func65, Tryz.ntmps65
  have HS := Lib.hid (((St.start (ag_emp w)).alloc (.cells #[.int .u64 a, .int .u64 b, .int .u64 c, .int .u64 d] 24)).alloc' (.cells #[.bool false, .string ⟨#[]⟩, .slice none 0 0] 123) (w.heap.size + 1) (by simp))
  go_wp2_with fail
  refine (bytes_any a b c d _).mono ?_
  rintro e w1 ⟨rfl, hb1⟩
  have HS1 := Lib.hid (HS.out.grow hb1)
  clear hb1 HS
  go_wp2_with fail
  refine (text_any _ _).mono ?_
  rintro e w2 ⟨rfl, hb2⟩
  have HS2 := Lib.hid (HS1.out.grow hb2)
  clear hb2 HS1
  go_wp2_with (first
    | (refine wpList_store_st (cs := #[.bool false, .string (wordS a b c d), .slice none 0 0]) 0 HS2.out rfl rfl 123 (.tmp 2) (.tmp 5) rfl rfl rfl szItem rfl (oneItem _ _ _ _ _) ?_)
    | fail)
  intro w4 S4
  go_wp2_with fail
  exact post_cell 0 S4 rfl Tryz.results65 rfl _ Tryz.underlying123 rfl szItem rfl ⟨rfl, S4.below⟩
/-- A list item is handed back. -/
def ListI (l : List It) (H : Hs) (w : World) (e : Ending) (w' : World) : Prop :=
  ∃ A c H', e = .returned (.agg #[.bool true, .string ⟨#[]⟩, .slice A l.length c]) ∧ RepL H' [.bool true, .string ⟨#[]⟩, .slice A l.length c] (It.list l).d ∧ St H w none_ H' w' []
theorem list_any (l : List It) {H : Hs} {w : World} (hw : Ag H w) (v : Value) (hv : RepV H v (.sl 3 l.length (itsD l))) (hn : l.length ≤ 1099511627776) :
    Calls Tryz.prog 68 #[v] w (ListI l H w) := by
  obtain ⟨i0, hi, hz0, hz1, hz2⟩ := info_parts infoItem
  obtain ⟨A, c, cs, rfl, hnc, hA, hlen, hr, hd⟩ := hv.sl_inv
  have HS := Lib.hid (((St.start hw).alloc (.cells #[.bool false, .string ⟨#[]⟩, .slice none 0 0] 123)).own_nil (e := 123) (size := 3))
  have HR := Lib.hid hr
  have HD := Lib.hid hd
  have HA := Lib.hid hA
  have HL : Hid (cs.length = l.length * 3) := by unfold Hid; rw [hd.len, hlen]
  clear hv hr hd hA hlen hw
  go_enter Tryz.func68, Tryz.ntmps68
  go_wp2_with (first
    | (at_builtin; refine wpList_append_opt 0 123 HS.out rfl rfl _ _ 121 rfl i0 _ 48 Tryz.underlying121 hi hz0 hz1 hz2 rfl (by decide) rfl A l.length c cs rfl HA.out HR.out HS.out.ag HL.out HD.out.one (by unfold maxLen; omega) (by omega) ?_)
    | fail)
  intro A1 c1 w1 S1
  have HS1 : Hid (St H w none_ H w1 [own 123 3 (.slice A1 l.length c1) l.length cs, blk w.heap.size (.cells #[.bool false, .string ⟨#[]⟩, .slice none 0 0] 123)]) := by
    first | exact S1 | (rw [Nat.zero_add] at S1; exact S1)
  clear S1 HS
  obtain ⟨H', hle, hrep, S2⟩ := HS1.out.keepOwn 0 rfl HD.out
  have HS2 : Hid (St H w none_ H' w1 [blk w.heap.size (.cells #[.bool false, .string ⟨#[]⟩, .slice none 0 0] 123)]) := S2
  have HREP := Lib.hid hrep
  clear S2 hrep HS1
  go_wp2_with (first
    | (refine wpList_store_st (cs := #[.bool true, .string ⟨#[]⟩, .slice A1 l.length c1]) 0 HS2.out rfl rfl 123 (.tmp 2) (.tmp 5) rfl rfl rfl szItem rfl (oneItem _ _ _ _ _) ?_)
    | fail)
  intro w4 S4
  go_wp2_with fail
  exact post_cell 0 S4 rfl Tryz.results68 rfl _ Tryz.underlying123 rfl szItem rfl ⟨A1, c1, H', rfl, by unfold It.d; exact .cons (.pl rfl) (.cons (.pl rfl) (.cons HREP.out .nil)), S4.nil⟩
end Go.Proofs.YtdnpobjokajigaaGreatDoor

namespace Go.Proofs.YtdnpobjokajigaaGreatDoor
open Go.RowKit Go.Proofs K

theorem retFrom {P : Program} {f : FuncId} {args : Array Value} {v : Value} {W w : World} (hb : Below W.heap.size W w) (h : Calls P f args w (RetV v w)) : Calls P f args w (RetV v W) :=
  h.mono fun _ _ ⟨a, b⟩ => ⟨a, hb.trans (b.mono hb.size)⟩
/-- Rows of items that are texts. -/
def textC (s : ByteArray) : List Value := [.bool false, .string s, .slice none 0 0]
def textsC (l : List ByteArray) : List Value := l.flatMap textC
theorem texts_rep (H : Hs) : ∀ l : List ByteArray, RepL H (textsC l) (itsD (l.map It.text))
  | [] => by
    unfold textsC itsD
    exact .nil
  | s :: l => by
    rw [textsC, List.flatMap_cons, List.map_cons, itsD]
    refine RepL.append ?_ (texts_rep H l)
    unfold It.d
    exact .cons (.pl rfl) (.cons (.pl rfl) (.cons (.sl (Nat.le_refl _) (fun _ => rfl) rfl (.inl rfl) .nil) .nil))
def putL (l : List ByteArray) : ByteArray := (It.list (l.map It.text)).bytes

theorem textL_len (s : ByteArray) : (textL s).length ≤ s.size + 9 := by
  have h9 := aheadL_len 128 s.size
  have h91 := aheadL_len 128 1
  have hs : s.data.toList.length = s.size := by simp
  unfold textL
  split
  · rename_i c h
    rw [h] at hs
    have h1 : s.size = 1 := by simpa using hs.symm
    split
    · simp
    · rw [List.length_append, h1]
      simp
      omega
  · rw [List.length_append, hs]
    omega
theorem encL_texts_len : ∀ (l : List ByteArray), (∀ s ∈ l, s.size ≤ 100000) → (encL (l.map It.text)).length ≤ l.length * 100009
  | [], _ => by simp [encL]
  | s :: l, h => by
    have h1 := textL_len s
    have h2 := h s (by simp)
    have h3 := encL_texts_len l fun x hx => h x (by simp [hx])
    rw [List.map_cons, encL, List.length_append, List.length_cons]
    unfold It.enc
    omega
theorem texts_short : ∀ (l : List ByteArray), shortL (l.map It.text)
  | [] => trivial
  | _ :: l => ⟨trivial, texts_short l⟩
theorem put_short {l : List ByteArray} (h : l.length ≤ 100) : (It.list (l.map It.text)).short := ⟨by simp; omega, texts_short l⟩
theorem put_len {l : List ByteArray} (h : l.length ≤ 100) (hs : ∀ s ∈ l, s.size ≤ 100000) : (It.list (l.map It.text)).enc.length ≤ 1099511627776 := by
  have h1 := encL_texts_len l hs
  have h2 := aheadL_len 192 (encL (l.map It.text)).length
  unfold It.enc
  rw [List.length_append]
  have h3 := Nat.mul_le_mul_right 100009 h
  omega
theorem numS_size (n : Int) : (numS n).size ≤ 8 := by have := numL_len n; simpa [numS, ByteArray.size] using this
theorem wordS_size (a b c d : Int) : (wordS a b c d).size = 32 := by simp [wordS, strOfNums_size, wordL]
def askC (id : Int) (addr : ByteArray) (a b c d kind : Int) : Array Value := #[.int .u64 id, .string addr, .int .u64 a, .int .u64 b, .int .u64 c, .int .u64 d, .int .i64 kind]
theorem oneItemL (p : Bool) (s : ByteArray) (A : Option Addr) (n c : Nat) : ∀ u ∈ ([.bool p, .string s, .slice A n c] : List Value), u.oneCell' = true := by simp [Value.oneCell']
theorem ask_small {addr : ByteArray} (h : addr.size = 20) {id k a b c d : Int} : ∀ s ∈ [numS id, numS k, addr, wordS a b c d], s.size ≤ 100000 := by
  intro s hs
  simp only [List.mem_cons, List.not_mem_nil, or_false] at hs
  rcases hs with rfl | rfl | rfl | rfl
  · have := numS_size id; omega
  · have := numS_size k; omega
  · omega
  · rw [wordS_size]; omega
set_option maxRecDepth 100000 in
theorem putAsk2_any (id : Int) (addr : ByteArray) (a b c d kind : Int) (h20 : addr.size = 20) (hk : kind = 2) (w : World) :
    Calls Tryz.prog 75 #[.agg (askC id addr a b c d kind)] w (RetV (.tuple #[.string (putL [numS id, numS (IntKind.u64.wrap 2), addr, wordS a b c d]), .bool true]) w) := by
  have HK := Lib.hid hk
  clear hk
  have H20 := Lib.hid h20
  clear h20
  obtain ⟨W, hW⟩ : ∃ W, W = w.alloc (.cells (askC id addr a b c d kind) 45) := ⟨_, rfl⟩
  have HS : Hid (St empH w none_ empH W [blk w.heap.size (.cells (askC id addr a b c d kind) 45)]) := by rw [hW]; exact (St.start (ag_emp w)).alloc _
  have f0 : ∀ w', Below W.heap.size W w' → w'.cell? ⟨w.heap.size, 0, none⟩ = some (.int .u64 id) := fun w' h => (HS.out.grow h).cell 0 rfl rfl
  have f1 : ∀ w', Below W.heap.size W w' → w'.cell? ⟨w.heap.size, 1, none⟩ = some (.string addr) := fun w' h => (HS.out.grow h).cell 0 rfl rfl
  have f6 : ∀ w', Below W.heap.size W w' → w'.cell? ⟨w.heap.size, 6, none⟩ = some (.int .i64 kind) := fun w' h => (HS.out.grow h).cell 0 rfl rfl
  have HW := Lib.hid hW
  clear hW
  simp only [askC]
  go_enter Tryz.func75, Tryz.ntmps75
  go_wp2_with fail
  have eW := HW.out
  simp only [askC] at eW
  rw [← eW]
  clear eW
  go_region_held3 (fun w' => Below W.heap.size W w') (repeat (first | assumption | exact Below.refl _ _ | apply Below.drew | (refine Below.alloc ?_ (by first | exact Nat.le_refl _ | exact Below.size (by assumption) | simp) _))) (first
    | (go_at_call 64; refine (retFrom (W := W) ?_ (numberI_any _ _)).mono ?_; (first | assumption | exact (Below.refl _ _).drew); rintro e w1 ⟨rfl, hb1⟩)
    | (go_at_call 66; refine (retFrom (W := W) ?_ (text_any _ _)).mono ?_; (first | assumption | exact (Below.refl _ _).drew); rintro e w1 ⟨rfl, hb1⟩))
  clear f0 f1 f6
  obtain ⟨w2, hw2⟩ : ∃ w2, w2 = w1.alloc (.cells #[.bool false, .string (numS id), .slice none 0 0, .bool false, .string (numS (IntKind.u64.wrap kind)), .slice none 0 0, .bool false, .string addr, .slice none 0 0] 123) := ⟨_, rfl⟩
  have HS1 : Hid (St empH w none_ empH w2 [own 123 3 (.slice (some ⟨w1.heap.size, 0, none⟩) 3 3) 3 (textsC [numS id, numS (IntKind.u64.wrap kind), addr]), blk w.heap.size (.cells (askC id addr a b c d kind) 45)]) := by
    rw [hw2]
    exact (HS.out.grow hb1).madeRow #[.bool false, .string (numS id), .slice none 0 0, .bool false, .string (numS (IntKind.u64.wrap kind)), .slice none 0 0, .bool false, .string addr, .slice none 0 0] rfl (by decide)
  rw [← hw2]
  have HG := Lib.hid (And.intro hw2 hb1)
  clear hw2 hb1 HS
  have c1 : w2.cell? ⟨w.heap.size, 1, none⟩ = some (.string addr) := HS1.out.cell 1 rfl rfl
  have c2 : w2.cell? ⟨w.heap.size, 2, none⟩ = some (.int .u64 a) := HS1.out.cell 1 rfl rfl
  have c3 : w2.cell? ⟨w.heap.size, 3, none⟩ = some (.int .u64 b) := HS1.out.cell 1 rfl rfl
  have c4 : w2.cell? ⟨w.heap.size, 4, none⟩ = some (.int .u64 c) := HS1.out.cell 1 rfl rfl
  have c5 : w2.cell? ⟨w.heap.size, 5, none⟩ = some (.int .u64 d) := HS1.out.cell 1 rfl rfl
  have c6 : w2.cell? ⟨w.heap.size, 6, none⟩ = some (.int .i64 kind) := HS1.out.cell 1 rfl rfl
  obtain rfl := HK.out
  have h20 : ((addr.size : Int) == 20) = true := by rw [beq_iff_eq, H20.out]; rfl
  have h20' : ((addr.size : Int) != 20) = false := by rw [bne, h20]; rfl
  go_wp2_with fail
  refine (whole_any _ _ _ _ _).mono ?_
  rintro e w3 ⟨rfl, hb3⟩
  have HS2 := Lib.hid (HS1.out.grow hb3)
  have HS3 := Lib.hid (HS2.out.madeRow (e := 123) (size := 3) (n := 1) #[.bool false, .string (wordS a b c d), .slice none 0 0] rfl (by decide))
  clear hb3 HS1 c1 c2 c3 c4 c5 c6 HG
  obtain ⟨i0, hi, hz0, hz1, hz2⟩ := info_parts infoItem
  go_wp2_with (first
    | (at_builtin; refine wpList_append_st 1 123 HS3.out rfl rfl _ _ 121 rfl i0 _ 48 Tryz.underlying121 hi hz0 hz1 hz2 rfl (by decide) rfl ⟨w3.heap.size, 0, none⟩ 1 1 [.bool false, .string (wordS a b c d), .slice none 0 0] rfl rfl (fun j u hj => ?_) (oneItemL _ _ _ _ _) (by unfold maxLen; omega) (by omega) ?_)
    | fail)
  · rw [Addr.add_lit, Nat.zero_add]
    have h1 := HS3.out.ownCell 0 rfl j (by have := (List.getElem?_eq_some_iff.1 hj).1; simpa using this)
    exact h1.trans hj
  intro A4 c4 w4 S4
  obtain ⟨H', hle, hrep, S5⟩ := S4.keepOwn 0 rfl (ds := itsD ([numS id, numS (IntKind.u64.wrap 2), addr, wordS a b c d].map It.text)) (texts_rep empH [numS id, numS (IntKind.u64.wrap 2), addr, wordS a b c d])
  have HREP := Lib.hid hrep
  have HS5 := Lib.hid S5
  clear S4 S5 hrep HS3 HS2
  go_wp2_with fail
  refine (list_any ([numS id, numS (IntKind.u64.wrap 2), addr, wordS a b c d].map It.text) HS5.out.ag _ HREP.out (by simp)).mono ?_
  rintro e w5 ⟨A5, c5, H5, rfl, hr5, S6⟩
  have HR5 := Lib.hid hr5
  have HS6 := Lib.hid (HS5.out.more S6)
  clear S6 hr5 HREP HS5
  go_wp2_with fail
  refine (encode_any (.list ([numS id, numS (IntKind.u64.wrap 2), addr, wordS a b c d].map It.text)) (put_short (by simp)) (put_len (by simp) (ask_small H20.out)) HS6.out.ag _ _ _ HR5.out).mono ?_
  rintro e w6 ⟨rfl, hb6⟩
  have HB := Lib.hid ((HS6.out.grow hb6).below)
  clear HR5 HS6 hb6
  go_wp2_with fail
  go_ret2
  exact ⟨rfl, HB.out⟩

theorem ask_small1 {addr : ByteArray} (h : addr.size = 20) {id k : Int} : ∀ s ∈ [numS id, numS k, addr], s.size ≤ 100000 := by
  intro s hs
  exact ask_small h (id := id) (k := k) (a := 0) (b := 0) (c := 0) (d := 0) s (by simp only [List.mem_cons, List.not_mem_nil, or_false] at hs ⊢; rcases hs with h | h | h <;> simp [h])
set_option maxRecDepth 100000 in
theorem putAsk1_any (id : Int) (addr : ByteArray) (a b c d kind : Int) (h20 : addr.size = 20) (hk : kind = 1) (hz : a = 0 ∧ b = 0 ∧ c = 0 ∧ d = 0) (w : World) :
    Calls Tryz.prog 75 #[.agg (askC id addr a b c d kind)] w (RetV (.tuple #[.string (putL [numS id, numS (IntKind.u64.wrap 1), addr]), .bool true]) w) := by
  have H20 := Lib.hid h20
  have HZ := Lib.hid hz
  have HK := Lib.hid hk
  clear h20 hz hk
  obtain ⟨W, hW⟩ : ∃ W, W = w.alloc (.cells (askC id addr a b c d kind) 45) := ⟨_, rfl⟩
  have HS : Hid (St empH w none_ empH W [blk w.heap.size (.cells (askC id addr a b c d kind) 45)]) := by rw [hW]; exact (St.start (ag_emp w)).alloc _
  have f0 : ∀ w', Below W.heap.size W w' → w'.cell? ⟨w.heap.size, 0, none⟩ = some (.int .u64 id) := fun w' h => (HS.out.grow h).cell 0 rfl rfl
  have f1 : ∀ w', Below W.heap.size W w' → w'.cell? ⟨w.heap.size, 1, none⟩ = some (.string addr) := fun w' h => (HS.out.grow h).cell 0 rfl rfl
  have f6 : ∀ w', Below W.heap.size W w' → w'.cell? ⟨w.heap.size, 6, none⟩ = some (.int .i64 kind) := fun w' h => (HS.out.grow h).cell 0 rfl rfl
  have HW := Lib.hid hW
  clear hW
  simp only [askC]
  go_enter Tryz.func75, Tryz.ntmps75
  go_wp2_with fail
  have eW := HW.out
  simp only [askC] at eW
  rw [← eW]
  clear eW
  go_region_held3 (fun w' => Below W.heap.size W w') (repeat (first | assumption | exact Below.refl _ _ | apply Below.drew | (refine Below.alloc ?_ (by first | exact Nat.le_refl _ | exact Below.size (by assumption) | simp) _))) (first
    | (go_at_call 64; refine (retFrom (W := W) ?_ (numberI_any _ _)).mono ?_; (first | assumption | exact (Below.refl _ _).drew); rintro e w1 ⟨rfl, hb1⟩)
    | (go_at_call 66; refine (retFrom (W := W) ?_ (text_any _ _)).mono ?_; (first | assumption | exact (Below.refl _ _).drew); rintro e w1 ⟨rfl, hb1⟩))
  clear f0 f1 f6
  obtain ⟨w2, hw2⟩ : ∃ w2, w2 = w1.alloc (.cells #[.bool false, .string (numS id), .slice none 0 0, .bool false, .string (numS (IntKind.u64.wrap kind)), .slice none 0 0, .bool false, .string addr, .slice none 0 0] 123) := ⟨_, rfl⟩
  have HS1 : Hid (St empH w none_ empH w2 [own 123 3 (.slice (some ⟨w1.heap.size, 0, none⟩) 3 3) 3 (textsC [numS id, numS (IntKind.u64.wrap kind), addr]), blk w.heap.size (.cells (askC id addr a b c d kind) 45)]) := by
    rw [hw2]
    exact (HS.out.grow hb1).madeRow #[.bool false, .string (numS id), .slice none 0 0, .bool false, .string (numS (IntKind.u64.wrap kind)), .slice none 0 0, .bool false, .string addr, .slice none 0 0] rfl (by decide)
  rw [← hw2]
  have HG := Lib.hid (And.intro hw2 hb1)
  clear hw2 hb1 HS
  have c1 : w2.cell? ⟨w.heap.size, 1, none⟩ = some (.string addr) := HS1.out.cell 1 rfl rfl
  have c2 : w2.cell? ⟨w.heap.size, 2, none⟩ = some (.int .u64 a) := HS1.out.cell 1 rfl rfl
  have c3 : w2.cell? ⟨w.heap.size, 3, none⟩ = some (.int .u64 b) := HS1.out.cell 1 rfl rfl
  have c4 : w2.cell? ⟨w.heap.size, 4, none⟩ = some (.int .u64 c) := HS1.out.cell 1 rfl rfl
  have c5 : w2.cell? ⟨w.heap.size, 5, none⟩ = some (.int .u64 d) := HS1.out.cell 1 rfl rfl
  have c6 : w2.cell? ⟨w.heap.size, 6, none⟩ = some (.int .i64 kind) := HS1.out.cell 1 rfl rfl
  obtain rfl := HK.out
  obtain ⟨rfl, rfl, rfl, rfl⟩ := HZ.out
  have h20 : ((addr.size : Int) == 20) = true := by rw [beq_iff_eq, H20.out]; rfl
  have h20' : ((addr.size : Int) != 20) = false := by rw [bne, h20]; rfl
  obtain ⟨H', hle, hrep, S5⟩ := HS1.out.keepOwn 0 rfl (ds := itsD ([numS id, numS (IntKind.u64.wrap 1), addr].map It.text)) (texts_rep empH [numS id, numS (IntKind.u64.wrap 1), addr])
  have HREP := Lib.hid hrep
  have HS5 := Lib.hid S5
  clear S5 hrep
  go_wp2_with fail
  refine (list_any ([numS id, numS (IntKind.u64.wrap 1), addr].map It.text) HS5.out.ag _ HREP.out (by simp)).mono ?_
  rintro e w5 ⟨A5, c5, H5, rfl, hr5, S6⟩
  have HR5 := Lib.hid hr5
  have HS6 := Lib.hid (HS5.out.more S6)
  clear S6 hr5 HREP HS5
  go_wp2_with fail
  refine (encode_any (.list ([numS id, numS (IntKind.u64.wrap 1), addr].map It.text)) (put_short (by simp)) (put_len (by simp) (ask_small1 H20.out)) HS6.out.ag _ _ _ HR5.out).mono ?_
  rintro e w6 ⟨rfl, hb6⟩
  have HB := Lib.hid ((HS6.out.grow hb6).below)
  clear HR5 HS6 hb6
  go_wp2_with fail
  go_ret2
  exact ⟨rfl, HB.out⟩

set_option maxRecDepth 100000 in
theorem putAsk_size (id : Int) (addr : ByteArray) (a b c d kind : Int) (h20 : addr.size ≠ 20) (w : World) :
    Calls Tryz.prog 75 #[.agg (askC id addr a b c d kind)] w (RetV (.tuple #[.string ⟨#[]⟩, .bool false]) w) := by
  have H20 := Lib.hid h20
  clear h20
  obtain ⟨W, hW⟩ : ∃ W, W = w.alloc (.cells (askC id addr a b c d kind) 45) := ⟨_, rfl⟩
  have HS : Hid (St empH w none_ empH W [blk w.heap.size (.cells (askC id addr a b c d kind) 45)]) := by rw [hW]; exact (St.start (ag_emp w)).alloc _
  have f0 : ∀ w', Below W.heap.size W w' → w'.cell? ⟨w.heap.size, 0, none⟩ = some (.int .u64 id) := fun w' h => (HS.out.grow h).cell 0 rfl rfl
  have f1 : ∀ w', Below W.heap.size W w' → w'.cell? ⟨w.heap.size, 1, none⟩ = some (.string addr) := fun w' h => (HS.out.grow h).cell 0 rfl rfl
  have f6 : ∀ w', Below W.heap.size W w' → w'.cell? ⟨w.heap.size, 6, none⟩ = some (.int .i64 kind) := fun w' h => (HS.out.grow h).cell 0 rfl rfl
  have HW := Lib.hid hW
  clear hW
  simp only [askC]
  go_enter Tryz.func75, Tryz.ntmps75
  go_wp2_with fail
  have eW := HW.out
  simp only [askC] at eW
  rw [← eW]
  clear eW
  go_region_held3 (fun w' => Below W.heap.size W w') (repeat (first | assumption | exact Below.refl _ _ | apply Below.drew | (refine Below.alloc ?_ (by first | exact Nat.le_refl _ | exact Below.size (by assumption) | simp) _))) (first
    | (go_at_call 64; refine (retFrom (W := W) ?_ (numberI_any _ _)).mono ?_; (first | assumption | exact (Below.refl _ _).drew); rintro e w1 ⟨rfl, hb1⟩)
    | (go_at_call 66; refine (retFrom (W := W) ?_ (text_any _ _)).mono ?_; (first | assumption | exact (Below.refl _ _).drew); rintro e w1 ⟨rfl, hb1⟩))
  clear f0 f1 f6
  obtain ⟨w2, hw2⟩ : ∃ w2, w2 = w1.alloc (.cells #[.bool false, .string (numS id), .slice none 0 0, .bool false, .string (numS (IntKind.u64.wrap kind)), .slice none 0 0, .bool false, .string addr, .slice none 0 0] 123) := ⟨_, rfl⟩
  have HS1 : Hid (St empH w none_ empH w2 [own 123 3 (.slice (some ⟨w1.heap.size, 0, none⟩) 3 3) 3 (textsC [numS id, numS (IntKind.u64.wrap kind), addr]), blk w.heap.size (.cells (askC id addr a b c d kind) 45)]) := by
    rw [hw2]
    exact (HS.out.grow hb1).madeRow #[.bool false, .string (numS id), .slice none 0 0, .bool false, .string (numS (IntKind.u64.wrap kind)), .slice none 0 0, .bool false, .string addr, .slice none 0 0] rfl (by decide)
  rw [← hw2]
  have HG := Lib.hid (And.intro hw2 hb1)
  clear hw2 hb1 HS
  have c1 : w2.cell? ⟨w.heap.size, 1, none⟩ = some (.string addr) := HS1.out.cell 1 rfl rfl
  have c2 : w2.cell? ⟨w.heap.size, 2, none⟩ = some (.int .u64 a) := HS1.out.cell 1 rfl rfl
  have c3 : w2.cell? ⟨w.heap.size, 3, none⟩ = some (.int .u64 b) := HS1.out.cell 1 rfl rfl
  have c4 : w2.cell? ⟨w.heap.size, 4, none⟩ = some (.int .u64 c) := HS1.out.cell 1 rfl rfl
  have c5 : w2.cell? ⟨w.heap.size, 5, none⟩ = some (.int .u64 d) := HS1.out.cell 1 rfl rfl
  have c6 : w2.cell? ⟨w.heap.size, 6, none⟩ = some (.int .i64 kind) := HS1.out.cell 1 rfl rfl
  have h20 : ((addr.size : Int) == 20) = false := by rw [beq_eq_false_iff_ne]; have := H20.out; omega
  have h20' : ((addr.size : Int) != 20) = true := by rw [bne, h20]; rfl
  go_wp2_with fail
  go_ret2
  exact ⟨rfl, HS1.out.below⟩
set_option maxRecDepth 100000 in
theorem putAsk_kind (id : Int) (addr : ByteArray) (a b c d kind : Int) (h20 : addr.size = 20) (h1 : kind ≠ 1) (h2 : kind ≠ 2) (w : World) :
    Calls Tryz.prog 75 #[.agg (askC id addr a b c d kind)] w (RetV (.tuple #[.string ⟨#[]⟩, .bool false]) w) := by
  have H20 := Lib.hid h20
  have H12 := Lib.hid (And.intro h1 h2)
  clear h20 h1 h2
  obtain ⟨W, hW⟩ : ∃ W, W = w.alloc (.cells (askC id addr a b c d kind) 45) := ⟨_, rfl⟩
  have HS : Hid (St empH w none_ empH W [blk w.heap.size (.cells (askC id addr a b c d kind) 45)]) := by rw [hW]; exact (St.start (ag_emp w)).alloc _
  have f0 : ∀ w', Below W.heap.size W w' → w'.cell? ⟨w.heap.size, 0, none⟩ = some (.int .u64 id) := fun w' h => (HS.out.grow h).cell 0 rfl rfl
  have f1 : ∀ w', Below W.heap.size W w' → w'.cell? ⟨w.heap.size, 1, none⟩ = some (.string addr) := fun w' h => (HS.out.grow h).cell 0 rfl rfl
  have f6 : ∀ w', Below W.heap.size W w' → w'.cell? ⟨w.heap.size, 6, none⟩ = some (.int .i64 kind) := fun w' h => (HS.out.grow h).cell 0 rfl rfl
  have HW := Lib.hid hW
  clear hW
  simp only [askC]
  go_enter Tryz.func75, Tryz.ntmps75
  go_wp2_with fail
  have eW := HW.out
  simp only [askC] at eW
  rw [← eW]
  clear eW
  go_region_held3 (fun w' => Below W.heap.size W w') (repeat (first | assumption | exact Below.refl _ _ | apply Below.drew | (refine Below.alloc ?_ (by first | exact Nat.le_refl _ | exact Below.size (by assumption) | simp) _))) (first
    | (go_at_call 64; refine (retFrom (W := W) ?_ (numberI_any _ _)).mono ?_; (first | assumption | exact (Below.refl _ _).drew); rintro e w1 ⟨rfl, hb1⟩)
    | (go_at_call 66; refine (retFrom (W := W) ?_ (text_any _ _)).mono ?_; (first | assumption | exact (Below.refl _ _).drew); rintro e w1 ⟨rfl, hb1⟩))
  clear f0 f1 f6
  obtain ⟨w2, hw2⟩ : ∃ w2, w2 = w1.alloc (.cells #[.bool false, .string (numS id), .slice none 0 0, .bool false, .string (numS (IntKind.u64.wrap kind)), .slice none 0 0, .bool false, .string addr, .slice none 0 0] 123) := ⟨_, rfl⟩
  have HS1 : Hid (St empH w none_ empH w2 [own 123 3 (.slice (some ⟨w1.heap.size, 0, none⟩) 3 3) 3 (textsC [numS id, numS (IntKind.u64.wrap kind), addr]), blk w.heap.size (.cells (askC id addr a b c d kind) 45)]) := by
    rw [hw2]
    exact (HS.out.grow hb1).madeRow #[.bool false, .string (numS id), .slice none 0 0, .bool false, .string (numS (IntKind.u64.wrap kind)), .slice none 0 0, .bool false, .string addr, .slice none 0 0] rfl (by decide)
  rw [← hw2]
  have HG := Lib.hid (And.intro hw2 hb1)
  clear hw2 hb1 HS
  have c1 : w2.cell? ⟨w.heap.size, 1, none⟩ = some (.string addr) := HS1.out.cell 1 rfl rfl
  have c2 : w2.cell? ⟨w.heap.size, 2, none⟩ = some (.int .u64 a) := HS1.out.cell 1 rfl rfl
  have c3 : w2.cell? ⟨w.heap.size, 3, none⟩ = some (.int .u64 b) := HS1.out.cell 1 rfl rfl
  have c4 : w2.cell? ⟨w.heap.size, 4, none⟩ = some (.int .u64 c) := HS1.out.cell 1 rfl rfl
  have c5 : w2.cell? ⟨w.heap.size, 5, none⟩ = some (.int .u64 d) := HS1.out.cell 1 rfl rfl
  have c6 : w2.cell? ⟨w.heap.size, 6, none⟩ = some (.int .i64 kind) := HS1.out.cell 1 rfl rfl
  have h20 : ((addr.size : Int) == 20) = true := by rw [beq_iff_eq, H20.out]; rfl
  have h20' : ((addr.size : Int) != 20) = false := by rw [bne, h20]; rfl
  have h1 : (kind == 1) = false := beq_eq_false_iff_ne.2 H12.out.1
  have h1' : (kind != 1) = true := by rw [bne, h1]; rfl
  have h2 : (kind == 2) = false := beq_eq_false_iff_ne.2 H12.out.2
  go_wp2_with fail
  go_ret2
  exact ⟨rfl, HS1.out.below⟩
set_option maxRecDepth 100000 in
theorem putAsk_slot (id : Int) (addr : ByteArray) (a b c d kind : Int) (h20 : addr.size = 20) (hk : kind = 1) (hz : ¬ (a = 0 ∧ b = 0 ∧ c = 0 ∧ d = 0)) (w : World) :
    Calls Tryz.prog 75 #[.agg (askC id addr a b c d kind)] w (RetV (.tuple #[.string ⟨#[]⟩, .bool false]) w) := by
  have H20 := Lib.hid h20
  have HZ := Lib.hid hz
  have HK := Lib.hid hk
  clear h20 hz hk
  obtain ⟨W, hW⟩ : ∃ W, W = w.alloc (.cells (askC id addr a b c d kind) 45) := ⟨_, rfl⟩
  have HS : Hid (St empH w none_ empH W [blk w.heap.size (.cells (askC id addr a b c d kind) 45)]) := by rw [hW]; exact (St.start (ag_emp w)).alloc _
  have f0 : ∀ w', Below W.heap.size W w' → w'.cell? ⟨w.heap.size, 0, none⟩ = some (.int .u64 id) := fun w' h => (HS.out.grow h).cell 0 rfl rfl
  have f1 : ∀ w', Below W.heap.size W w' → w'.cell? ⟨w.heap.size, 1, none⟩ = some (.string addr) := fun w' h => (HS.out.grow h).cell 0 rfl rfl
  have f6 : ∀ w', Below W.heap.size W w' → w'.cell? ⟨w.heap.size, 6, none⟩ = some (.int .i64 kind) := fun w' h => (HS.out.grow h).cell 0 rfl rfl
  have HW := Lib.hid hW
  clear hW
  simp only [askC]
  go_enter Tryz.func75, Tryz.ntmps75
  go_wp2_with fail
  have eW := HW.out
  simp only [askC] at eW
  rw [← eW]
  clear eW
  go_region_held3 (fun w' => Below W.heap.size W w') (repeat (first | assumption | exact Below.refl _ _ | apply Below.drew | (refine Below.alloc ?_ (by first | exact Nat.le_refl _ | exact Below.size (by assumption) | simp) _))) (first
    | (go_at_call 64; refine (retFrom (W := W) ?_ (numberI_any _ _)).mono ?_; (first | assumption | exact (Below.refl _ _).drew); rintro e w1 ⟨rfl, hb1⟩)
    | (go_at_call 66; refine (retFrom (W := W) ?_ (text_any _ _)).mono ?_; (first | assumption | exact (Below.refl _ _).drew); rintro e w1 ⟨rfl, hb1⟩))
  clear f0 f1 f6
  obtain ⟨w2, hw2⟩ : ∃ w2, w2 = w1.alloc (.cells #[.bool false, .string (numS id), .slice none 0 0, .bool false, .string (numS (IntKind.u64.wrap kind)), .slice none 0 0, .bool false, .string addr, .slice none 0 0] 123) := ⟨_, rfl⟩
  have HS1 : Hid (St empH w none_ empH w2 [own 123 3 (.slice (some ⟨w1.heap.size, 0, none⟩) 3 3) 3 (textsC [numS id, numS (IntKind.u64.wrap kind), addr]), blk w.heap.size (.cells (askC id addr a b c d kind) 45)]) := by
    rw [hw2]
    exact (HS.out.grow hb1).madeRow #[.bool false, .string (numS id), .slice none 0 0, .bool false, .string (numS (IntKind.u64.wrap kind)), .slice none 0 0, .bool false, .string addr, .slice none 0 0] rfl (by decide)
  rw [← hw2]
  have HG := Lib.hid (And.intro hw2 hb1)
  clear hw2 hb1 HS
  have c1 : w2.cell? ⟨w.heap.size, 1, none⟩ = some (.string addr) := HS1.out.cell 1 rfl rfl
  have c2 : w2.cell? ⟨w.heap.size, 2, none⟩ = some (.int .u64 a) := HS1.out.cell 1 rfl rfl
  have c3 : w2.cell? ⟨w.heap.size, 3, none⟩ = some (.int .u64 b) := HS1.out.cell 1 rfl rfl
  have c4 : w2.cell? ⟨w.heap.size, 4, none⟩ = some (.int .u64 c) := HS1.out.cell 1 rfl rfl
  have c5 : w2.cell? ⟨w.heap.size, 5, none⟩ = some (.int .u64 d) := HS1.out.cell 1 rfl rfl
  have c6 : w2.cell? ⟨w.heap.size, 6, none⟩ = some (.int .i64 kind) := HS1.out.cell 1 rfl rfl
  obtain rfl := HK.out
  have h20 : ((addr.size : Int) == 20) = true := by rw [beq_iff_eq, H20.out]; rfl
  have h20' : ((addr.size : Int) != 20) = false := by rw [bne, h20]; rfl
  go_wp2_with fail
  all_goals first | (refine (HZ.out ⟨?_, ?_, ?_, ?_⟩).elim <;> assumption) | (go_ret2; exact ⟨rfl, HS1.out.below⟩)
end Go.Proofs.YtdnpobjokajigaaGreatDoor

namespace Go.Proofs.YtdnpobjokajigaaGreatDoor
open Go.RowKit Go.Proofs K
set_option linter.unusedVariables false

theorem bytes_beq2 (a b : ByteArray) : (a.toList == b.toList) = decide (a = b) := by
  rw [Bool.eq_iff_iff, beq_iff_eq, decide_eq_true_eq, ByteArray.toList_eq, ByteArray.toList_eq]
  exact ⟨fun h => ByteArray.ext (Array.toList_inj.1 h), fun h => by rw [h]⟩
theorem chk_str {P : Program} {w : World} {t : TypeId} (hu : P.underlying t = some .string) (b : Bool) (n : Nat) (v : Value) : (Instr.checkKey b (n + 1) t v).run P w = .ok () w := by
  unfold Instr.checkKey
  rw [Sem.run_bind, run_underlying hu]
  rfl
theorem chk_num {P : Program} {w : World} {t : TypeId} {q : IntKind} (hu : P.underlying t = some (.int q)) (b : Bool) (n : Nat) (v : Value) : (Instr.checkKey b (n + 1) t v).run P w = .ok () w := by
  unfold Instr.checkKey
  rw [Sem.run_bind, run_underlying hu]
  rfl
theorem keyS : KeyOk Tryz.prog 9 Value.string where
  eq := fun x y w => by
    rw [← bytes_beq2]
    simp [Op.equal, Op.maxDepth, go_sem]
  chk := fun x b w => chk_str Tryz.underlying9 b 9999 _
  now := ⟨_, Tryz.underlying9, .inr fun x y => by
    show some (x == y) = _
    congr 1
    obtain ⟨x⟩ := x
    obtain ⟨y⟩ := y
    show (x == y) = _
    rw [Bool.eq_iff_iff, beq_iff_eq, decide_eq_true_eq]
    exact ⟨fun h => by rw [h], fun h => by cases h; rfl⟩⟩
  stay := fun x => by simp [Instr.sameBits, beq_toListBytes]

/-- An ask. -/
structure AskS where
  id : Int
  addr : ByteArray
  a : Int
  b : Int
  c : Int
  d : Int
  kind : Int
deriving DecidableEq
def AskS.cells (x : AskS) : Array Value := askC x.id x.addr x.a x.b x.c x.d x.kind
def encA (x : AskS) : Value := .agg x.cells
theorem keyA : KeyOk Tryz.prog 45 encA where
  eq := fun x y w => by
    obtain ⟨i, s, a, b, c, d, k⟩ := x
    obtain ⟨i', s', a', b', c', d', k'⟩ := y
    have e1 : s.toList = s'.toList ↔ s = s' := by have := bytes_beq2 s s'; rw [Bool.eq_iff_iff] at this; simpa using this
    have h1 : (if i = i' then if s.toList = s'.toList then if a = a' then if b = b' then if c = c' then if d = d' then if k = k' then Result.ok true w else Result.ok false w else Result.ok false w else Result.ok false w else Result.ok false w else Result.ok false w else Result.ok false w else Result.ok false w) = Result.ok (decide ((⟨i, s, a, b, c, d, k⟩ : AskS) = ⟨i', s', a', b', c', d', k'⟩)) w := by
      by_cases h1 : i = i' <;> by_cases h2 : s = s' <;> by_cases h3 : a = a' <;> by_cases h4 : b = b' <;> by_cases h5 : c = c' <;> by_cases h6 : d = d' <;> by_cases h7 : k = k' <;> simp [e1, h1, h2, h3, h4, h5, h6, h7]
    rw [← h1]
    simp [encA, AskS.cells, askC, Op.equal, Op.maxDepth, go_sem]
  chk := fun x b w => by
    simp only [encA, AskS.cells, askC]
    unfold Instr.checkKey
    rw [Sem.run_bind, run_underlying Tryz.underlying45]
    simp [Result.andThen, go_sem, chk_str Tryz.underlying9, chk_num Tryz.underlying22]
    unfold Instr.checkKey
    rw [Sem.run_bind, run_underlying Tryz.underlying24]
    simp [Result.andThen, go_sem, chk_num Tryz.underlying22, run_underlying Tryz.underlying3]
  now := ⟨_, Tryz.underlying45, .inl fun _ _ => rfl⟩
  stay := fun x => by
    simp [encA, AskS.cells, askC, Instr.sameBits, beq_toListBytes]
end Go.Proofs.YtdnpobjokajigaaGreatDoor

namespace Go.Proofs.YtdnpobjokajigaaGreatDoor
open Go.RowKit Go.Proofs K

theorem need_yes (w : World) : Calls Tryz.prog 123 #[.bool true] w fun e w' => e = .returned (.tuple #[]) ∧ w = w' := by
  go_enter Tryz.func123, Tryz.ntmps123
  go_wp2
  go_end0
  exact ⟨rfl, rfl⟩
/-- What the reader throws. -/
def wrongV : Value := .iface 223 (.agg #[])
def wrongC : List PanicEntry := [{ v := wrongV, recovered := false }]
theorem need_no (w : World) : Calls Tryz.prog 123 #[.bool false] w fun e w' => e = .panicked wrongC ∧ w = w' := by
  have hp : ∀ w, (Instr.panic (.iface 223 (.agg #[]))).run Tryz.prog w = .halt (.panic (.iface 223 (.agg #[]))) w := fun _ => rfl
  go_enter Tryz.func123, Tryz.ntmps123
  go_wp2
  exact ⟨rfl, rfl, rfl⟩

theorem bodyPost_pan {P : Program} {fn : Func} {R : Ending → World → Prop} {a : Act} {w : World} {chain : List PanicEntry} (hd : a.defers = []) (hR : R (.panicked chain) w) : bodyPost P fn R (.panic chain) a w := ⟨hd, hR⟩
/-- A reader's text. -/
def rdO (s : ByteArray) : Obj := .cells #[.string s] 227
/-- It throws; the reader is forgotten. -/
def PanS (H0 H : Hs) (w0 : World) (X : Nat → Prop) (qs : List Hp) (e : Ending) (w' : World) : Prop := e = .panicked wrongC ∧ St H0 w0 X H w' qs
section
variable {H0 H : Hs} {w0 w : World} {X : Nat → Prop} {ps : List Hp} {p : Nat} {s : ByteArray}
theorem take_yes (S : St H0 w0 X H w ps) (i : Nat) (hi : ps[i]? = some (blk p (rdO s))) (n : Nat) (hn : n ≤ s.size) :
    Calls Tryz.prog 165 #[.pointer (some ⟨p, 0, none⟩), .int .i64 n] w (RetS (.string (s.extract 0 n)) H0 H w0 X (blk p (rdO (s.extract n s.size)) :: ps.eraseIdx i)) := by
  have c0 : w.cell? ⟨p, 0, none⟩ = some (.string s) := S.cell i hi rfl
  have f0 : w.frozen? ⟨p, 0, none⟩ = false := S.frozen i hi 0
  have hc : decide ((n : Int) ≤ (s.size : Int)) = true := by simp; omega
  have HS := Lib.hid (S.setCell (j := 0) i hi (.string (s.extract n s.size)))
  clear S
  go_enter Tryz.func165, Tryz.ntmps165
  go_wp2_with fail
  refine (need_yes _).mono ?_
  rintro e w1 ⟨rfl, rfl⟩
  go_wp2_with fail
  go_ret
  exact ⟨rfl, HS.out⟩
theorem take_no (S : St H0 w0 X H w ps) (i : Nat) (hi : ps[i]? = some (blk p (rdO s))) (n : Nat) (hn : s.size < n) :
    Calls Tryz.prog 165 #[.pointer (some ⟨p, 0, none⟩), .int .i64 n] w (PanS H0 H w0 X (ps.eraseIdx i)) := by
  have c0 : w.cell? ⟨p, 0, none⟩ = some (.string s) := S.cell i hi rfl
  have hc : decide (n ≤ s.size) = false := by simp; omega
  have HS := Lib.hid (S.drop i)
  clear S
  go_enter Tryz.func165, Tryz.ntmps165
  go_wp2_with fail
  refine (need_no _).mono ?_
  rintro e w1 ⟨rfl, rfl⟩
  go_wp2_with fail
  exact bodyPost_pan rfl ⟨rfl, HS.out⟩
end

theorem small_list (s : ByteArray) (A : Option Addr) (n c : Nat) (w : World) : Calls Tryz.prog 168 #[.agg #[.bool true, .string s, .slice A n c]] w (RetV (.tuple #[.int .u64 0, .bool false]) w) := by
  go_enter Tryz.func168, Tryz.ntmps168
  go_wp2_with fail
  go_ret2
  exact ⟨rfl, (Below.refl _ _).alloc (Nat.le_refl _) _⟩
theorem small_long (s : ByteArray) (h : 8 < s.size) (A : Option Addr) (n c : Nat) (w : World) : Calls Tryz.prog 168 #[.agg #[.bool false, .string s, .slice A n c]] w (RetV (.tuple #[.int .u64 0, .bool false]) w) := by
  go_enter Tryz.func168, Tryz.ntmps168
  go_wp2_with fail
  go_ret2
  exact ⟨rfl, (Below.refl _ _).alloc (Nat.le_refl _) _⟩
end Go.Proofs.YtdnpobjokajigaaGreatDoor
