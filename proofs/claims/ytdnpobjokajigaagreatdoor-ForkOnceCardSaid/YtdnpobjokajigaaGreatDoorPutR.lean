/-
  PutReply.
-/
import Derived.Test.YtdnpobjokajigaaGreatDoorPart7
import Derived.Test.YtdnpobjokajigaaGreatDoorPart3
import Derived.Test.YtdnpobjokajigaaGreatDoorPart5
namespace Go.Proofs.YtdnpobjokajigaaGreatDoor
open Go.RowKit Go.Proofs K

theorem putL_size {l : List ByteArray} (h : l.length ≤ 10) (hs : ∀ s ∈ l, s.size ≤ 100000) : (putL l).size ≤ 2000000 := by
  have h1 := encL_texts_len l hs
  have h2 := aheadL_len 192 (encL (l.map It.text)).length
  have h3 := Nat.mul_le_mul_right 100009 h
  have e : (putL l).size = (It.list (l.map It.text)).enc.length := by simp [putL, It.bytes, ByteArray.size]
  rw [e]
  unfold It.enc
  rw [List.length_append]
  omega
theorem sumS_size (s : ByteArray) : (sumS s).size = 4 := by simp [sumS, strOfNums_size, sumL]
def replyB (l : List ByteArray) : ByteArray := sumS (putL l) ++ putL l
set_option maxRecDepth 100000 in
set_option maxHeartbeats 4000000 in
theorem putReply_long (kind id nonce a b c d : Int) (code : ByteArray) (e f g h : Int) (hl : 24576 < code.size) (w : World) :
    Calls Tryz.prog 17 #[.int .i64 kind, .agg (replyC id nonce a b c d code e f g h)] w (RetV (.tuple #[.string ⟨#[]⟩, .bool false]) w) := by
  have hl' : (24576 : Int) < (code.size : Int) := by omega
  clear hl
  have HW : Hid (St empH w none_ empH (w.alloc (.cells (replyC id nonce a b c d code e f g h) 37)) [blk w.heap.size (.cells (replyC id nonce a b c d code e f g h) 37)]) := (St.start (ag_emp w)).alloc _
  have k0 : (w.alloc (.cells (replyC id nonce a b c d code e f g h) 37)).cell? ⟨w.heap.size, 0, none⟩ = some (.int .u64 id) := HW.out.cell 0 rfl rfl
  go_enter Tryz.func17, Tryz.ntmps17
  go_wp2_with fail
  refine (numberI_any _ _).mono ?_
  rintro e0 w1 ⟨rfl, hb1⟩
  have HS1 : Hid (St empH w none_ empH w1 [blk w.heap.size (.cells (replyC id nonce a b c d code e f g h) 37)]) := HW.out.grow hb1
  have HS2 : Hid (St empH w none_ empH (w1.alloc (.cells #[.bool false, .string (numS id), .slice none 0 0] 123)) [own 123 3 (.slice (some ⟨w1.heap.size, 0, none⟩) 1 1) 1 (textsC [numS id]), blk w.heap.size (.cells (replyC id nonce a b c d code e f g h) 37)]) := HS1.out.madeRow #[.bool false, .string (numS id), .slice none 0 0] rfl (by decide)
  have hwl : w.heap.size < w1.heap.size := HS1.out.blk_lt 0 rfl
  have k6 : w1.cell? ⟨w.heap.size, 6, none⟩ = some (.string code) := HS1.out.cell 0 rfl rfl
  clear hb1 HW k0
  go_wp2_with fail
  go_ret2
  exact ⟨rfl, HS2.out.below⟩
set_option maxRecDepth 100000 in
set_option maxHeartbeats 4000000 in
theorem putReply_kind (kind id nonce a b c d : Int) (code : ByteArray) (e f g h : Int) (hl : code.size ≤ 24576) (h1 : kind ≠ 1) (h2 : kind ≠ 2) (w : World) :
    Calls Tryz.prog 17 #[.int .i64 kind, .agg (replyC id nonce a b c d code e f g h)] w (RetV (.tuple #[.string ⟨#[]⟩, .bool false]) w) := by
  have hl' : ¬ (24576 : Int) < (code.size : Int) := by omega
  have e1 : (kind == 1) = false := beq_eq_false_iff_ne.2 h1
  have e2 : (kind == 2) = false := beq_eq_false_iff_ne.2 h2
  clear hl h1 h2
  have HW : Hid (St empH w none_ empH (w.alloc (.cells (replyC id nonce a b c d code e f g h) 37)) [blk w.heap.size (.cells (replyC id nonce a b c d code e f g h) 37)]) := (St.start (ag_emp w)).alloc _
  have k0 : (w.alloc (.cells (replyC id nonce a b c d code e f g h) 37)).cell? ⟨w.heap.size, 0, none⟩ = some (.int .u64 id) := HW.out.cell 0 rfl rfl
  go_enter Tryz.func17, Tryz.ntmps17
  go_wp2_with fail
  refine (numberI_any _ _).mono ?_
  rintro e0 w1 ⟨rfl, hb1⟩
  have HS1 : Hid (St empH w none_ empH w1 [blk w.heap.size (.cells (replyC id nonce a b c d code e f g h) 37)]) := HW.out.grow hb1
  have HS2 : Hid (St empH w none_ empH (w1.alloc (.cells #[.bool false, .string (numS id), .slice none 0 0] 123)) [own 123 3 (.slice (some ⟨w1.heap.size, 0, none⟩) 1 1) 1 (textsC [numS id]), blk w.heap.size (.cells (replyC id nonce a b c d code e f g h) 37)]) := HS1.out.madeRow #[.bool false, .string (numS id), .slice none 0 0] rfl (by decide)
  have hwl : w.heap.size < w1.heap.size := HS1.out.blk_lt 0 rfl
  have k6 : w1.cell? ⟨w.heap.size, 6, none⟩ = some (.string code) := HS1.out.cell 0 rfl rfl
  clear hb1 HW k0
  go_wp2_with fail
  go_ret2
  exact ⟨rfl, HS2.out.below⟩
set_option maxRecDepth 100000 in
set_option maxHeartbeats 4000000 in
theorem putReply_value (kind id nonce a b c d : Int) (code : ByteArray) (e f g h : Int) (hl : code.size ≤ 24576) (h1 : kind = 1) (hz : ¬ (e = 0 ∧ f = 0 ∧ g = 0 ∧ h = 0)) (w : World) :
    Calls Tryz.prog 17 #[.int .i64 kind, .agg (replyC id nonce a b c d code e f g h)] w (RetV (.tuple #[.string ⟨#[]⟩, .bool false]) w) := by
  have hl' : ¬ (24576 : Int) < (code.size : Int) := by omega
  have e1 : (kind == 1) = true := beq_iff_eq.2 h1
  have e2 : (kind == 2) = false := by rw [h1]; rfl
  have HZ := Lib.hid hz
  clear hl h1 hz
  have HW : Hid (St empH w none_ empH (w.alloc (.cells (replyC id nonce a b c d code e f g h) 37)) [blk w.heap.size (.cells (replyC id nonce a b c d code e f g h) 37)]) := (St.start (ag_emp w)).alloc _
  have k0 : (w.alloc (.cells (replyC id nonce a b c d code e f g h) 37)).cell? ⟨w.heap.size, 0, none⟩ = some (.int .u64 id) := HW.out.cell 0 rfl rfl
  go_enter Tryz.func17, Tryz.ntmps17
  go_wp2_with fail
  refine (numberI_any _ _).mono ?_
  rintro e0 w1 ⟨rfl, hb1⟩
  have HS1 : Hid (St empH w none_ empH w1 [blk w.heap.size (.cells (replyC id nonce a b c d code e f g h) 37)]) := HW.out.grow hb1
  have HS2 : Hid (St empH w none_ empH (w1.alloc (.cells #[.bool false, .string (numS id), .slice none 0 0] 123)) [own 123 3 (.slice (some ⟨w1.heap.size, 0, none⟩) 1 1) 1 (textsC [numS id]), blk w.heap.size (.cells (replyC id nonce a b c d code e f g h) 37)]) := HS1.out.madeRow #[.bool false, .string (numS id), .slice none 0 0] rfl (by decide)
  have hwl : w.heap.size < w1.heap.size := HS1.out.blk_lt 0 rfl
  have k6 : w1.cell? ⟨w.heap.size, 6, none⟩ = some (.string code) := HS1.out.cell 0 rfl rfl
  have k7 : w1.cell? ⟨w.heap.size, 7, none⟩ = some (.int .u64 e) := HS1.out.cell 0 rfl rfl
  have k8 : w1.cell? ⟨w.heap.size, 8, none⟩ = some (.int .u64 f) := HS1.out.cell 0 rfl rfl
  have k9 : w1.cell? ⟨w.heap.size, 9, none⟩ = some (.int .u64 g) := HS1.out.cell 0 rfl rfl
  have k10 : w1.cell? ⟨w.heap.size, 10, none⟩ = some (.int .u64 h) := HS1.out.cell 0 rfl rfl
  clear hb1 HW k0
  go_wp2_with fail
  all_goals first | (refine (HZ.out ⟨?_, ?_, ?_, ?_⟩).elim <;> assumption) | (go_ret2; exact ⟨rfl, HS2.out.below⟩)
set_option maxRecDepth 100000 in
set_option maxHeartbeats 4000000 in
theorem putReply_account (kind id nonce a b c d : Int) (code : ByteArray) (e f g h : Int) (hl : code.size ≤ 24576) (h1 : kind = 2) (hz : ¬ (nonce = 0 ∧ (a = 0 ∧ b = 0 ∧ c = 0 ∧ d = 0) ∧ code.toList = [])) (w : World) :
    Calls Tryz.prog 17 #[.int .i64 kind, .agg (replyC id nonce a b c d code e f g h)] w (RetV (.tuple #[.string ⟨#[]⟩, .bool false]) w) := by
  have hl' : ¬ (24576 : Int) < (code.size : Int) := by omega
  have e1 : (kind == 1) = false := by rw [h1]; rfl
  have e2 : (kind == 2) = true := beq_iff_eq.2 h1
  have HZ := Lib.hid hz
  clear hl h1 hz
  have HW : Hid (St empH w none_ empH (w.alloc (.cells (replyC id nonce a b c d code e f g h) 37)) [blk w.heap.size (.cells (replyC id nonce a b c d code e f g h) 37)]) := (St.start (ag_emp w)).alloc _
  have k0 : (w.alloc (.cells (replyC id nonce a b c d code e f g h) 37)).cell? ⟨w.heap.size, 0, none⟩ = some (.int .u64 id) := HW.out.cell 0 rfl rfl
  go_enter Tryz.func17, Tryz.ntmps17
  go_wp2_with fail
  refine (numberI_any _ _).mono ?_
  rintro e0 w1 ⟨rfl, hb1⟩
  have HS1 : Hid (St empH w none_ empH w1 [blk w.heap.size (.cells (replyC id nonce a b c d code e f g h) 37)]) := HW.out.grow hb1
  have HS2 : Hid (St empH w none_ empH (w1.alloc (.cells #[.bool false, .string (numS id), .slice none 0 0] 123)) [own 123 3 (.slice (some ⟨w1.heap.size, 0, none⟩) 1 1) 1 (textsC [numS id]), blk w.heap.size (.cells (replyC id nonce a b c d code e f g h) 37)]) := HS1.out.madeRow #[.bool false, .string (numS id), .slice none 0 0] rfl (by decide)
  have hwl : w.heap.size < w1.heap.size := HS1.out.blk_lt 0 rfl
  have k1 : w1.cell? ⟨w.heap.size, 1, none⟩ = some (.int .u64 nonce) := HS1.out.cell 0 rfl rfl
  have k2 : w1.cell? ⟨w.heap.size, 2, none⟩ = some (.int .u64 a) := HS1.out.cell 0 rfl rfl
  have k3 : w1.cell? ⟨w.heap.size, 3, none⟩ = some (.int .u64 b) := HS1.out.cell 0 rfl rfl
  have k4 : w1.cell? ⟨w.heap.size, 4, none⟩ = some (.int .u64 c) := HS1.out.cell 0 rfl rfl
  have k5 : w1.cell? ⟨w.heap.size, 5, none⟩ = some (.int .u64 d) := HS1.out.cell 0 rfl rfl
  have k6 : w1.cell? ⟨w.heap.size, 6, none⟩ = some (.string code) := HS1.out.cell 0 rfl rfl
  clear hb1 HW k0
  go_wp2_with fail
  all_goals first | (refine (HZ.out ⟨?_, ⟨?_, ?_, ?_, ?_⟩, ?_⟩).elim <;> first | assumption | (simp_all; done)) | (go_ret2; exact ⟨rfl, HS2.out.below⟩)
theorem two_small {id e f g h : Int} : ∀ s ∈ [numS id, wordS e f g h], s.size ≤ 100000 := by
  intro s hs
  simp only [List.mem_cons, List.not_mem_nil, or_false] at hs
  rcases hs with rfl | rfl
  · have := numS_size id; omega
  · rw [wordS_size]; omega
theorem four_small {id n a b c d : Int} {code : ByteArray} (hc : code.size ≤ 24576) : ∀ s ∈ [numS id, numS n, wordS a b c d, code], s.size ≤ 100000 := by
  intro s hs
  simp only [List.mem_cons, List.not_mem_nil, or_false] at hs
  rcases hs with rfl | rfl | rfl | rfl
  · have := numS_size id; omega
  · have := numS_size n; omega
  · rw [wordS_size]; omega
  · omega
set_option maxRecDepth 100000 in
set_option maxHeartbeats 4000000 in
theorem putReply_two (kind id e f g h : Int) (h1 : kind = 2) (w : World) (r : ByteArray) (hr : r = replyB [numS id, wordS e f g h]) :
    Calls Tryz.prog 17 #[.int .i64 kind, .agg (replyC id 0 0 0 0 0 ⟨#[]⟩ e f g h)] w (RetV (.tuple #[.string r, .bool true]) w) := by
  have HPOST := Lib.hid (show Ending.returned (.tuple #[.string (sumS (putL [numS id, wordS e f g h]) ++ putL [numS id, wordS e f g h]), .bool true]) = Ending.returned (.tuple #[.string r, .bool true]) by rw [hr]; rfl)
  have e1 : (kind == 1) = false := by rw [h1]; rfl
  have e2 : (kind == 2) = true := beq_iff_eq.2 h1
  clear h1 hr
  have HW : Hid (St empH w none_ empH (w.alloc (.cells (replyC id 0 0 0 0 0 ⟨#[]⟩ e f g h) 37)) [blk w.heap.size (.cells (replyC id 0 0 0 0 0 ⟨#[]⟩ e f g h) 37)]) := (St.start (ag_emp w)).alloc _
  have k0 : (w.alloc (.cells (replyC id 0 0 0 0 0 ⟨#[]⟩ e f g h) 37)).cell? ⟨w.heap.size, 0, none⟩ = some (.int .u64 id) := HW.out.cell 0 rfl rfl
  go_enter Tryz.func17, Tryz.ntmps17
  go_wp2_with fail
  refine (numberI_any _ _).mono ?_
  rintro e0 w1 ⟨rfl, hb1⟩
  have HS1 : Hid (St empH w none_ empH w1 [blk w.heap.size (.cells (replyC id 0 0 0 0 0 ⟨#[]⟩ e f g h) 37)]) := HW.out.grow hb1
  have HS2 : Hid (St empH w none_ empH (w1.alloc (.cells #[.bool false, .string (numS id), .slice none 0 0] 123)) [own 123 3 (.slice (some ⟨w1.heap.size, 0, none⟩) 1 1) 1 (textsC [numS id]), blk w.heap.size (.cells (replyC id 0 0 0 0 0 ⟨#[]⟩ e f g h) 37)]) := HS1.out.madeRow #[.bool false, .string (numS id), .slice none 0 0] rfl (by decide)
  have hwl : w.heap.size < w1.heap.size := HS1.out.blk_lt 0 rfl
  have k1 : w1.cell? ⟨w.heap.size, 1, none⟩ = some (.int .u64 0) := HS1.out.cell 0 rfl rfl
  have k2 : w1.cell? ⟨w.heap.size, 2, none⟩ = some (.int .u64 0) := HS1.out.cell 0 rfl rfl
  have k3 : w1.cell? ⟨w.heap.size, 3, none⟩ = some (.int .u64 0) := HS1.out.cell 0 rfl rfl
  have k4 : w1.cell? ⟨w.heap.size, 4, none⟩ = some (.int .u64 0) := HS1.out.cell 0 rfl rfl
  have k5 : w1.cell? ⟨w.heap.size, 5, none⟩ = some (.int .u64 0) := HS1.out.cell 0 rfl rfl
  have k6 : w1.cell? ⟨w.heap.size, 6, none⟩ = some (.string ⟨#[]⟩) := HS1.out.cell 0 rfl rfl
  have k7 : w1.cell? ⟨w.heap.size, 7, none⟩ = some (.int .u64 e) := HS1.out.cell 0 rfl rfl
  have k8 : w1.cell? ⟨w.heap.size, 8, none⟩ = some (.int .u64 f) := HS1.out.cell 0 rfl rfl
  have k9 : w1.cell? ⟨w.heap.size, 9, none⟩ = some (.int .u64 g) := HS1.out.cell 0 rfl rfl
  have k10 : w1.cell? ⟨w.heap.size, 10, none⟩ = some (.int .u64 h) := HS1.out.cell 0 rfl rfl
  clear hb1 HW k0
  go_wp2_with fail
  refine (whole_any _ _ _ _ _).mono ?_
  rintro e3 w3 ⟨rfl, hb3⟩
  have HS3 := Lib.hid ((HS2.out.grow hb3).madeRow (e := 123) (size := 3) (n := 1) #[.bool false, .string (wordS e f g h), .slice none 0 0] rfl (by decide))
  clear hb3 HS1 HS2 k1 k2 k3 k4 k5 k6 k7 k8 k9 k10
  obtain ⟨i0, hi, hz0, hz1, hz2⟩ := info_parts infoItem
  go_wp2_with (first
    | (at_builtin; refine wpList_append_st 1 123 HS3.out rfl rfl _ _ 121 rfl i0 _ 48 Tryz.underlying121 hi hz0 hz1 hz2 rfl (by decide) rfl ⟨w3.heap.size, 0, none⟩ 1 1 [.bool false, .string (wordS e f g h), .slice none 0 0] rfl rfl (fun j u hj => ?_) (oneItemL _ _ _ _ _) (by unfold maxLen; omega) (by omega) ?_)
    | fail)
  · rw [Addr.add_lit, Nat.zero_add]
    have h1 := HS3.out.ownCell 0 rfl j (by have := (List.getElem?_eq_some_iff.1 hj).1; simpa using this)
    exact h1.trans hj
  intro A4 c4 w4 S4
  clear HS3
  obtain ⟨H', hle, hrep, S5⟩ := S4.keepOwn 0 rfl (ds := itsD ([numS id, wordS e f g h].map It.text)) (texts_rep empH [numS id, wordS e f g h])
  have HREP := Lib.hid hrep
  have HS5 := Lib.hid S5
  clear S5 hrep
  go_wp2_with fail
  refine (list_any ([numS id, wordS e f g h].map It.text) HS5.out.ag _ HREP.out (by simp)).mono ?_
  rintro e5 w5 ⟨A5, c5, H5, rfl, hr5, S6⟩
  have HR5 := Lib.hid hr5
  have HS6 := Lib.hid (HS5.out.more S6)
  clear S6 hr5 HREP HS5
  go_wp2_with fail
  refine (encode_any (.list ([numS id, wordS e f g h].map It.text)) (put_short (by simp)) (put_len (by simp) two_small) HS6.out.ag _ _ _ HR5.out).mono ?_
  rintro e6 w6 ⟨rfl, hb6⟩
  have HS7 := Lib.hid (HS6.out.grow hb6)
  obtain ⟨body, hbody⟩ : ∃ body, body = putL [numS id, wordS e f g h] := ⟨_, rfl⟩
  have hb : (It.list ([numS id, wordS e f g h].map It.text)).bytes = body := by rw [hbody]; rfl
  rw [hb]
  rw [← hbody] at HPOST
  have hbs : body.size ≤ 2000000 := by rw [hbody]; exact putL_size (by simp) two_small
  have HBS := Lib.hid hbs
  clear HR5 HS6 hb6 hbody hb hbs
  go_wp2_with fail
  refine (wsum_any body (Nat.le_trans HBS.out (by decide)) _).mono ?_
  rintro e7 w7 ⟨rfl, hb7⟩
  have HB := Lib.hid ((HS7.out.grow hb7).below)
  have hcat : (sumS body).size + body.size ≤ 9223372036854775807 := by
    have h4 : (sumS body).size = 4 := sumS_size body
    have := HBS.out
    omega
  clear HS7 hb7
  go_wp2_with fail
  go_ret2
  exact ⟨HPOST.out, HB.out⟩
set_option maxRecDepth 100000 in
set_option maxHeartbeats 4000000 in
theorem putReply_one (kind id nonce a b c d : Int) (code : ByteArray) (hl : code.size ≤ 24576) (h1 : kind = 1) (w : World) (r : ByteArray) (hr : r = replyB [numS id, numS nonce, wordS a b c d, code]) :
    Calls Tryz.prog 17 #[.int .i64 kind, .agg (replyC id nonce a b c d code 0 0 0 0)] w (RetV (.tuple #[.string r, .bool true]) w) := by
  have HPOST := Lib.hid (show Ending.returned (.tuple #[.string (sumS (putL [numS id, numS nonce, wordS a b c d, code]) ++ putL [numS id, numS nonce, wordS a b c d, code]), .bool true]) = Ending.returned (.tuple #[.string r, .bool true]) by rw [hr]; rfl)
  have HLC := Lib.hid hl
  have hl' : ¬ (24576 : Int) < (code.size : Int) := by omega
  have e1 : (kind == 1) = true := beq_iff_eq.2 h1
  clear hl h1 hr
  have HW : Hid (St empH w none_ empH (w.alloc (.cells (replyC id nonce a b c d code 0 0 0 0) 37)) [blk w.heap.size (.cells (replyC id nonce a b c d code 0 0 0 0) 37)]) := (St.start (ag_emp w)).alloc _
  have k0 : (w.alloc (.cells (replyC id nonce a b c d code 0 0 0 0) 37)).cell? ⟨w.heap.size, 0, none⟩ = some (.int .u64 id) := HW.out.cell 0 rfl rfl
  go_enter Tryz.func17, Tryz.ntmps17
  go_wp2_with fail
  refine (numberI_any _ _).mono ?_
  rintro e0 w1 ⟨rfl, hb1⟩
  have HS1 : Hid (St empH w none_ empH w1 [blk w.heap.size (.cells (replyC id nonce a b c d code 0 0 0 0) 37)]) := HW.out.grow hb1
  have HS2 : Hid (St empH w none_ empH (w1.alloc (.cells #[.bool false, .string (numS id), .slice none 0 0] 123)) [own 123 3 (.slice (some ⟨w1.heap.size, 0, none⟩) 1 1) 1 (textsC [numS id]), blk w.heap.size (.cells (replyC id nonce a b c d code 0 0 0 0) 37)]) := HS1.out.madeRow #[.bool false, .string (numS id), .slice none 0 0] rfl (by decide)
  have hwl : w.heap.size < w1.heap.size := HS1.out.blk_lt 0 rfl
  have k6 : w1.cell? ⟨w.heap.size, 6, none⟩ = some (.string code) := HS1.out.cell 0 rfl rfl
  have k7 : w1.cell? ⟨w.heap.size, 7, none⟩ = some (.int .u64 0) := HS1.out.cell 0 rfl rfl
  have k8 : w1.cell? ⟨w.heap.size, 8, none⟩ = some (.int .u64 0) := HS1.out.cell 0 rfl rfl
  have k9 : w1.cell? ⟨w.heap.size, 9, none⟩ = some (.int .u64 0) := HS1.out.cell 0 rfl rfl
  have k10 : w1.cell? ⟨w.heap.size, 10, none⟩ = some (.int .u64 0) := HS1.out.cell 0 rfl rfl
  clear hb1 HW k0
  go_wp2_with fail
  obtain ⟨W, hW⟩ : ∃ W, W = w1.alloc (.cells #[.bool false, .string (numS id), .slice none 0 0] 123) := ⟨_, rfl⟩
  rw [← hW] at HS2 ⊢
  have f1 : ∀ w', Below W.heap.size W w' → w'.cell? ⟨w.heap.size, 1, none⟩ = some (.int .u64 nonce) := fun w' h => (HS2.out.grow h).cell 1 rfl rfl
  have f2 : ∀ w', Below W.heap.size W w' → w'.cell? ⟨w.heap.size, 2, none⟩ = some (.int .u64 a) := fun w' h => (HS2.out.grow h).cell 1 rfl rfl
  have f3 : ∀ w', Below W.heap.size W w' → w'.cell? ⟨w.heap.size, 3, none⟩ = some (.int .u64 b) := fun w' h => (HS2.out.grow h).cell 1 rfl rfl
  have f4 : ∀ w', Below W.heap.size W w' → w'.cell? ⟨w.heap.size, 4, none⟩ = some (.int .u64 c) := fun w' h => (HS2.out.grow h).cell 1 rfl rfl
  have f5 : ∀ w', Below W.heap.size W w' → w'.cell? ⟨w.heap.size, 5, none⟩ = some (.int .u64 d) := fun w' h => (HS2.out.grow h).cell 1 rfl rfl
  have f6 : ∀ w', Below W.heap.size W w' → w'.cell? ⟨w.heap.size, 6, none⟩ = some (.string code) := fun w' h => (HS2.out.grow h).cell 1 rfl rfl
  have hb0 : Below W.heap.size W W.drew := (Below.refl _ _).drew
  obtain ⟨i0, hi, hz0, hz1, hz2⟩ := info_parts infoItem
  clear hW k6 k7 k8 k9 k10 HS1 hwl
  go_region_law (first
    | (go_simp; go_at_call 64; refine (retFrom (W := W) ?_ (numberI_any _ _)).mono ?_; (first | assumption | exact (Below.refl _ _).drew); rintro e2 w2 ⟨rfl, hb2⟩)
    | (go_simp; go_at_call 65; refine (retFrom (W := W) ?_ (whole_any _ _ _ _ _)).mono ?_; (first | assumption | exact (Below.refl _ _).drew); rintro e3 w3 ⟨rfl, hb3⟩)
    | (go_simp; go_at_call 66; refine (retFrom (W := W) ?_ (text_any _ _)).mono ?_; (first | assumption | exact (Below.refl _ _).drew); rintro e4 w4 ⟨rfl, hb4⟩; have HS3 : Hid (St empH w none_ empH (w4.alloc (.cells #[.bool false, .string (numS nonce), .slice none 0 0, .bool false, .string (wordS a b c d), .slice none 0 0, .bool false, .string code, .slice none 0 0] 123)) [own 123 3 (.slice (some ⟨w4.heap.size, 0, none⟩) 3 3) 3 (textsC [numS nonce, wordS a b c d, code]), own 123 3 (.slice (some ⟨w1.heap.size, 0, none⟩) 1 1) 1 (textsC [numS id]), blk w.heap.size (.cells (replyC id nonce a b c d code 0 0 0 0) 37)]) := (HS2.out.grow hb4).madeRow #[.bool false, .string (numS nonce), .slice none 0 0, .bool false, .string (wordS a b c d), .slice none 0 0, .bool false, .string code, .slice none 0 0] rfl (by decide))
    | (refine step_append_st 1 123 HS3.out rfl rfl (.tmp 27) (.tmp 40) 121 rfl i0 _ 48 Tryz.underlying121 hi hz0 hz1 hz2 rfl (by decide) rfl ⟨w4.heap.size, 0, none⟩ 3 3 (textsC [numS nonce, wordS a b c d, code]) rfl rfl (fun j u hj => ?_) ?_ ?_ ?_ ?_; (rw [Addr.add_lit, Nat.zero_add]; exact (HS3.out.ownCell 0 rfl j (by have := (List.getElem?_eq_some_iff.1 hj).1; simpa [textsC, textC] using this)).trans hj); (simp [textsC, textC, Value.oneCell']); (unfold maxLen; omega); omega; intro A4 c4 w5 S4))
  all_goals
    obtain ⟨H', hle, hrep, S5⟩ := S4.keepOwn 0 rfl (ds := itsD ([numS id, numS nonce, wordS a b c d, code].map It.text)) (texts_rep empH [numS id, numS nonce, wordS a b c d, code])
    have HREP := Lib.hid hrep
    have HS5 := Lib.hid S5
    clear S5 hrep
    go_wp2_with fail
    refine (list_any ([numS id, numS nonce, wordS a b c d, code].map It.text) HS5.out.ag _ HREP.out (by simp)).mono ?_
    rintro e5 w5 ⟨A5, c5, H5, rfl, hr5, S6⟩
    have HR5 := Lib.hid hr5
    have HS6 := Lib.hid (HS5.out.more S6)
    clear S6 hr5 HREP HS5
    go_wp2_with fail
    refine (encode_any (.list ([numS id, numS nonce, wordS a b c d, code].map It.text)) (put_short (by simp)) (put_len (by simp) (four_small HLC.out)) HS6.out.ag _ _ _ HR5.out).mono ?_
    rintro e6 w6 ⟨rfl, hb6⟩
    have HS7 := Lib.hid (HS6.out.grow hb6)
    obtain ⟨body, hbody⟩ : ∃ body, body = putL [numS id, numS nonce, wordS a b c d, code] := ⟨_, rfl⟩
    have hb : (It.list ([numS id, numS nonce, wordS a b c d, code].map It.text)).bytes = body := by rw [hbody]; rfl
    rw [hb]
    rw [← hbody] at HPOST
    have hbs : body.size ≤ 2000000 := by rw [hbody]; exact putL_size (by simp) (four_small HLC.out)
    have HBS := Lib.hid hbs
    clear HR5 HS6 hb6 hbody hb hbs
    go_wp2_with fail
    refine (wsum_any body (Nat.le_trans HBS.out (by decide)) _).mono ?_
    rintro e7 w7 ⟨rfl, hb7⟩
    have HB := Lib.hid ((HS7.out.grow hb7).below)
    have hcat : (sumS body).size + body.size ≤ 9223372036854775807 := by
      have h4 : (sumS body).size = 4 := sumS_size body
      have := HBS.out
      omega
    clear HS7 hb7
    go_wp2_with fail
    go_ret2
    exact ⟨HPOST.out, HB.out⟩
end Go.Proofs.YtdnpobjokajigaaGreatDoor
