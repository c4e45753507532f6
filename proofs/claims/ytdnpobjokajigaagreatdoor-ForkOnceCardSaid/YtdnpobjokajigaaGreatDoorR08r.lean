/-
  The document's own PutReply.
-/
import Derived.Test.YtdnpobjokajigaaGreatDoorPart21
import Derived.Test.YtdnpobjokajigaaGreatDoorPart18
import Derived.Test.YtdnpobjokajigaaGreatDoorGetRep
namespace Go.Proofs.YtdnpobjokajigaaGreatDoor
open Go.RowKit Go.Proofs K
set_option linter.unusedVariables false

set_option maxRecDepth 100000 in
set_option maxHeartbeats 4000000 in
theorem rputReply_long (kind id nonce a b c d : Int) (code : ByteArray) (e f g h : Int) (hid : W64 id) (hl : 24576 < code.size) (w : World) :
    Calls Tryz.prog 83 #[.int .i64 kind, .agg (replyC id nonce a b c d code e f g h)] w (RetV (.tuple #[.string ⟨#[]⟩, .bool false]) w) := by
  have HID := Lib.hid (rnumber_any id hid)
  clear hid
  have hl' : (24576 : Int) < (code.size : Int) := by omega
  clear hl
  have HW : Hid (St empH w none_ empH (w.alloc (.cells (replyC id nonce a b c d code e f g h) 161)) [blk w.heap.size (.cells (replyC id nonce a b c d code e f g h) 161)]) := (St.start (ag_emp w)).alloc _
  have k0 : (w.alloc (.cells (replyC id nonce a b c d code e f g h) 161)).cell? ⟨w.heap.size, 0, none⟩ = some (.int .u64 id) := HW.out.cell 0 rfl rfl
  go_enter Tryz.func83, Tryz.ntmps83
  go_wp2_with fail
  refine (HID.out _).mono ?_
  rintro e0 w1 ⟨rfl, hb1⟩
  have HS1 : Hid (St empH w none_ empH w1 [blk w.heap.size (.cells (replyC id nonce a b c d code e f g h) 161)]) := HW.out.grow hb1
  have HS2 : Hid (St empH w none_ empH (w1.alloc (.cells #[.bool false, .string (numS id), .slice none 0 0] 155)) [own 155 3 (.slice (some ⟨w1.heap.size, 0, none⟩) 1 1) 1 (textsC [numS id]), blk w.heap.size (.cells (replyC id nonce a b c d code e f g h) 161)]) := HS1.out.madeRow #[.bool false, .string (numS id), .slice none 0 0] rfl (by decide)
  have hwl : w.heap.size < w1.heap.size := HS1.out.blk_lt 0 rfl
  have k6 : w1.cell? ⟨w.heap.size, 6, none⟩ = some (.string code) := HS1.out.cell 0 rfl rfl
  clear hb1 HW k0
  go_wp2_with fail
  go_ret2
  exact ⟨rfl, HS2.out.below⟩
set_option maxRecDepth 100000 in
set_option maxHeartbeats 4000000 in
theorem rputReply_kind (kind id nonce a b c d : Int) (code : ByteArray) (e f g h : Int) (hid : W64 id) (hl : code.size ≤ 24576) (h1 : kind ≠ 1) (h2 : kind ≠ 2) (w : World) :
    Calls Tryz.prog 83 #[.int .i64 kind, .agg (replyC id nonce a b c d code e f g h)] w (RetV (.tuple #[.string ⟨#[]⟩, .bool false]) w) := by
  have HID := Lib.hid (rnumber_any id hid)
  clear hid
  have hl' : ¬ (24576 : Int) < (code.size : Int) := by omega
  have e1 : (kind == 1) = false := beq_eq_false_iff_ne.2 h1
  have e2 : (kind == 2) = false := beq_eq_false_iff_ne.2 h2
  clear hl h1 h2
  have HW : Hid (St empH w none_ empH (w.alloc (.cells (replyC id nonce a b c d code e f g h) 161)) [blk w.heap.size (.cells (replyC id nonce a b c d code e f g h) 161)]) := (St.start (ag_emp w)).alloc _
  have k0 : (w.alloc (.cells (replyC id nonce a b c d code e f g h) 161)).cell? ⟨w.heap.size, 0, none⟩ = some (.int .u64 id) := HW.out.cell 0 rfl rfl
  go_enter Tryz.func83, Tryz.ntmps83
  go_wp2_with fail
  refine (HID.out _).mono ?_
  rintro e0 w1 ⟨rfl, hb1⟩
  have HS1 : Hid (St empH w none_ empH w1 [blk w.heap.size (.cells (replyC id nonce a b c d code e f g h) 161)]) := HW.out.grow hb1
  have HS2 : Hid (St empH w none_ empH (w1.alloc (.cells #[.bool false, .string (numS id), .slice none 0 0] 155)) [own 155 3 (.slice (some ⟨w1.heap.size, 0, none⟩) 1 1) 1 (textsC [numS id]), blk w.heap.size (.cells (replyC id nonce a b c d code e f g h) 161)]) := HS1.out.madeRow #[.bool false, .string (numS id), .slice none 0 0] rfl (by decide)
  have hwl : w.heap.size < w1.heap.size := HS1.out.blk_lt 0 rfl
  have k6 : w1.cell? ⟨w.heap.size, 6, none⟩ = some (.string code) := HS1.out.cell 0 rfl rfl
  clear hb1 HW k0
  go_wp2_with fail
  go_ret2
  exact ⟨rfl, HS2.out.below⟩
set_option maxRecDepth 100000 in
set_option maxHeartbeats 4000000 in
theorem rputReply_value (kind id nonce a b c d : Int) (code : ByteArray) (e f g h : Int) (hid : W64 id) (hl : code.size ≤ 24576) (h1 : kind = 1) (hz : ¬ (e = 0 ∧ f = 0 ∧ g = 0 ∧ h = 0)) (w : World) :
    Calls Tryz.prog 83 #[.int .i64 kind, .agg (replyC id nonce a b c d code e f g h)] w (RetV (.tuple #[.string ⟨#[]⟩, .bool false]) w) := by
  have HID := Lib.hid (rnumber_any id hid)
  clear hid
  have hl' : ¬ (24576 : Int) < (code.size : Int) := by omega
  have e1 : (kind == 1) = true := beq_iff_eq.2 h1
  have e2 : (kind == 2) = false := by rw [h1]; rfl
  have HZ := Lib.hid hz
  clear hl h1 hz
  have HW : Hid (St empH w none_ empH (w.alloc (.cells (replyC id nonce a b c d code e f g h) 161)) [blk w.heap.size (.cells (replyC id nonce a b c d code e f g h) 161)]) := (St.start (ag_emp w)).alloc _
  have k0 : (w.alloc (.cells (replyC id nonce a b c d code e f g h) 161)).cell? ⟨w.heap.size, 0, none⟩ = some (.int .u64 id) := HW.out.cell 0 rfl rfl
  go_enter Tryz.func83, Tryz.ntmps83
  go_wp2_with fail
  refine (HID.out _).mono ?_
  rintro e0 w1 ⟨rfl, hb1⟩
  have HS1 : Hid (St empH w none_ empH w1 [blk w.heap.size (.cells (replyC id nonce a b c d code e f g h) 161)]) := HW.out.grow hb1
  have HS2 : Hid (St empH w none_ empH (w1.alloc (.cells #[.bool false, .string (numS id), .slice none 0 0] 155)) [own 155 3 (.slice (some ⟨w1.heap.size, 0, none⟩) 1 1) 1 (textsC [numS id]), blk w.heap.size (.cells (replyC id nonce a b c d code e f g h) 161)]) := HS1.out.madeRow #[.bool false, .string (numS id), .slice none 0 0] rfl (by decide)
  have hwl : w.heap.size < w1.heap.size := HS1.out.blk_lt 0 rfl
  have k6 : w1.cell? ⟨w.heap.size, 6, none⟩ = some (.string code) := HS1.out.cell 0 rfl rfl
  have k7 : w1.cell? ⟨w.heap.size, 7, none⟩ = some (.int .u64 e) := HS1.out.cell 0 rfl rfl
  have k8 : w1.cell? ⟨w.heap.size, 8, none⟩ = some (.int .u64 f) := HS1.out.cell 0 rfl rfl
  have k9 : w1.cell? ⟨w.heap.size, 9, none⟩ = some (.int .u64 g) := HS1.out.cell 0 rfl rfl
  have k10 : w1.cell? ⟨w.heap.size, 10, none⟩ = some (.int .u64 h) := HS1.out.cell 0 rfl rfl
  clear hb1 HW k0
  go_wp2_with fail
  all_goals first | (refine (HZ.out ⟨?_, ?_, ?_, ?_⟩).elim <;> assumption) | (go_ret2; exact ⟨rfl, HS2.out.below⟩)
set_option maxRecDepth 100000 in
set_option maxHeartbeats 4000000 in
theorem rputReply_account (kind id nonce a b c d : Int) (code : ByteArray) (e f g h : Int) (hid : W64 id) (hl : code.size ≤ 24576) (h1 : kind = 2) (hz : ¬ (nonce = 0 ∧ (a = 0 ∧ b = 0 ∧ c = 0 ∧ d = 0) ∧ code.toList = [])) (w : World) :
    Calls Tryz.prog 83 #[.int .i64 kind, .agg (replyC id nonce a b c d code e f g h)] w (RetV (.tuple #[.string ⟨#[]⟩, .bool false]) w) := by
  have HID := Lib.hid (rnumber_any id hid)
  clear hid
  have hl' : ¬ (24576 : Int) < (code.size : Int) := by omega
  have e1 : (kind == 1) = false := by rw [h1]; rfl
  have e2 : (kind == 2) = true := beq_iff_eq.2 h1
  have HZ := Lib.hid hz
  clear hl h1 hz
  have HW : Hid (St empH w none_ empH (w.alloc (.cells (replyC id nonce a b c d code e f g h) 161)) [blk w.heap.size (.cells (replyC id nonce a b c d code e f g h) 161)]) := (St.start (ag_emp w)).alloc _
  have k0 : (w.alloc (.cells (replyC id nonce a b c d code e f g h) 161)).cell? ⟨w.heap.size, 0, none⟩ = some (.int .u64 id) := HW.out.cell 0 rfl rfl
  go_enter Tryz.func83, Tryz.ntmps83
  go_wp2_with fail
  refine (HID.out _).mono ?_
  rintro e0 w1 ⟨rfl, hb1⟩
  have HS1 : Hid (St empH w none_ empH w1 [blk w.heap.size (.cells (replyC id nonce a b c d code e f g h) 161)]) := HW.out.grow hb1
  have HS2 : Hid (St empH w none_ empH (w1.alloc (.cells #[.bool false, .string (numS id), .slice none 0 0] 155)) [own 155 3 (.slice (some ⟨w1.heap.size, 0, none⟩) 1 1) 1 (textsC [numS id]), blk w.heap.size (.cells (replyC id nonce a b c d code e f g h) 161)]) := HS1.out.madeRow #[.bool false, .string (numS id), .slice none 0 0] rfl (by decide)
  have hwl : w.heap.size < w1.heap.size := HS1.out.blk_lt 0 rfl
  have k1 : w1.cell? ⟨w.heap.size, 1, none⟩ = some (.int .u64 nonce) := HS1.out.cell 0 rfl rfl
  have k2 : w1.cell? ⟨w.heap.size, 2, none⟩ = some (.int .u64 a) := HS1.out.cell 0 rfl rfl
  have k3 : w1.cell? ⟨w.heap.size, 3, none⟩ = some (.int .u64 b) := HS1.out.cell 0 rfl rfl
  have k4 : w1.cell? ⟨w.heap.size, 4, none⟩ = some (.int .u64 c) := HS1.out.cell 0 rfl rfl
  have k5 : w1.cell? ⟨w.heap.size, 5, none⟩ = some (.int .u64 d) := HS1.out.cell 0 rfl rfl
  have k6 : w1.cell? ⟨w.heap.size, 6, none⟩ = some (.string code) := HS1.out.cell 0 rfl rfl
  clear hb1 HW k0
  go_wp2_with fail
  all_goals first | (refine (HZ.out ⟨?_, ⟨?_, ?_, ?_, ?_⟩, ?_⟩).elim <;> first | assumption | (simp_all; done)) | (go_ret2; exact ⟨rfl, HS2.out.below⟩)
set_option maxRecDepth 100000 in
set_option maxHeartbeats 4000000 in
theorem rputReply_two (kind id e f g h : Int) (hid : W64 id) (he : W64 e) (hf : W64 f) (hg : W64 g) (hh : W64 h) (h1 : kind = 2) (w : World) (r : ByteArray) (hr : r = replyB [numS id, wordS e f g h]) :
    Calls Tryz.prog 83 #[.int .i64 kind, .agg (replyC id 0 0 0 0 0 ⟨#[]⟩ e f g h)] w (RetV (.tuple #[.string r, .bool true]) w) := by
  have HPOST := Lib.hid (show Ending.returned (.tuple #[.string (sumS (putL [numS id, wordS e f g h]) ++ putL [numS id, wordS e f g h]), .bool true]) = Ending.returned (.tuple #[.string r, .bool true]) by rw [hr]; rfl)
  have HID := Lib.hid (rnumber_any id hid)
  have HWB := Lib.hid (rwbytes_any e f g h he hf hg hh)
  have e1 : (kind == 1) = false := by rw [h1]; rfl
  have e2 : (kind == 2) = true := beq_iff_eq.2 h1
  clear h1 hr hid he hf hg hh
  have HW : Hid (St empH w none_ empH (w.alloc (.cells (replyC id 0 0 0 0 0 ⟨#[]⟩ e f g h) 161)) [blk w.heap.size (.cells (replyC id 0 0 0 0 0 ⟨#[]⟩ e f g h) 161)]) := (St.start (ag_emp w)).alloc _
  have k0 : (w.alloc (.cells (replyC id 0 0 0 0 0 ⟨#[]⟩ e f g h) 161)).cell? ⟨w.heap.size, 0, none⟩ = some (.int .u64 id) := HW.out.cell 0 rfl rfl
  go_enter Tryz.func83, Tryz.ntmps83
  go_wp2_with fail
  refine (HID.out _).mono ?_
  rintro e0 w1 ⟨rfl, hb1⟩
  have HS1 : Hid (St empH w none_ empH w1 [blk w.heap.size (.cells (replyC id 0 0 0 0 0 ⟨#[]⟩ e f g h) 161)]) := HW.out.grow hb1
  have HS2 : Hid (St empH w none_ empH (w1.alloc (.cells #[.bool false, .string (numS id), .slice none 0 0] 155)) [own 155 3 (.slice (some ⟨w1.heap.size, 0, none⟩) 1 1) 1 (textsC [numS id]), blk w.heap.size (.cells (replyC id 0 0 0 0 0 ⟨#[]⟩ e f g h) 161)]) := HS1.out.madeRow #[.bool false, .string (numS id), .slice none 0 0] rfl (by decide)
  have hwl : w.heap.size < w1.heap.size := HS1.out.blk_lt 0 rfl
  have k1 : w1.cell? ⟨w.heap.size, 1, none⟩ = some (.int .u64 0) := HS1.out.cell 0 rfl rfl
  have k2 : w1.cell? ⟨w.heap.size, 2, none⟩ = some (.int .u64 0) := HS1.out.cell 0 rfl rfl
  have k3 : w1.cell? ⟨w.heap.size, 3, none⟩ = some (.int .u64 0) := HS1.out.cell 0 rfl rfl
  have k4 : w1.cell? ⟨w.heap.size, 4, none⟩ = some (.int .u64 0) := HS1.out.cell 0 rfl rfl
  have k5 : w1.cell? ⟨w.heap.size, 5, none⟩ = some (.int .u64 0) := HS1.out.cell 0 rfl rfl
  have k6 : w1.cell? ⟨w.heap.size, 6, none⟩ = some (.string ⟨#[]⟩) := HS1.out.cell 0 rfl rfl
  have k7 : w1.cell? ⟨w.heap.size, 7, none⟩ = some (.int .u64 e) := HS1.out.cell 0 rfl rfl
  have k8 : w1.cell? ⟨w.heap.size, 8, none⟩ = some (.int .u64 f) := HS1.out.cell 0 rfl rfl
  have k9 : w1.cell? ⟨w.heap.size, 9, none⟩ = some (.int .u64 g) := HS1.out.cell 0 rfl rfl
  have k10 : w1.cell? ⟨w.heap.size, 10, none⟩ = some (.int .u64 h) := HS1.out.cell 0 rfl rfl
  clear hb1 HW k0
  go_wp2_with fail
  refine (HWB.out _).mono ?_
  rintro e3 w3 ⟨rfl, hb3⟩
  have HS2a := Lib.hid (HS2.out.grow hb3)
  clear hb3 HS1 HS2 k1 k2 k3 k4 k5 k6 k7 k8 k9 k10
  go_wp2_with fail
  refine (rtext_any _ _).mono ?_
  rintro e4 w4 ⟨rfl, hb4⟩
  have HS3 := Lib.hid ((HS2a.out.grow hb4).madeRow (e := 155) (size := 3) (n := 1) #[.bool false, .string (wordS e f g h), .slice none 0 0] rfl (by decide))
  clear hb4 HS2a
  obtain ⟨i0, hi, hz0, hz1, hz2⟩ := info_parts infoRItemP
  go_wp2_with (first
    | (at_builtin; refine wpList_append_st 1 155 HS3.out rfl rfl _ _ 153 rfl i0 _ 48 Tryz.underlying153 hi hz0 hz1 hz2 rfl (by decide) rfl ⟨w4.heap.size, 0, none⟩ 1 1 [.bool false, .string (wordS e f g h), .slice none 0 0] rfl rfl (fun j u hj => ?_) (oneItemL _ _ _ _ _) (by unfold maxLen; omega) (by omega) ?_)
    | fail)
  · rw [Addr.add_lit, Nat.zero_add]
    have h1 := HS3.out.ownCell 0 rfl j (by have := (List.getElem?_eq_some_iff.1 hj).1; simpa using this)
    exact h1.trans hj
  intro A4 c4 w5 S4
  clear HS3
  obtain ⟨H', hle, hrep, S5⟩ := S4.keepOwn 0 rfl (ds := itsD ([numS id, wordS e f g h].map It.text)) (texts_rep empH [numS id, wordS e f g h])
  have HREP : Hid (∀ A cp, RepV H' (.slice A 2 cp) (.sl 3 2 (itsD ([numS id, wordS e f g h].map It.text))) → RepL H' [.bool true, .string ⟨#[]⟩, .slice A 2 cp] (It.list ([numS id, wordS e f g h].map It.text)).d) := Lib.hid fun A cp h => by unfold It.d; exact .cons (.pl rfl) (.cons (.pl rfl) (.cons h .nil))
  have HREP2 := Lib.hid (HREP.out _ _ hrep)
  have HS5 := Lib.hid S5
  clear S5 hrep HREP
  go_wp2_with fail
  refine (renc_ok (.list ([numS id, wordS e f g h].map It.text)) (put_short (by simp)) _ _ _ _ _ HS5.out.ag HREP2.out (put_len (by simp) two_small)).mono ?_
  rintro e6 w6 ⟨rfl, hb6⟩
  have HS7 := Lib.hid (HS5.out.grow hb6)
  obtain ⟨body, hbody⟩ : ∃ body, body = putL [numS id, wordS e f g h] := ⟨_, rfl⟩
  have hb : (It.list ([numS id, wordS e f g h].map It.text)).bytes = body := by rw [hbody]; rfl
  rw [hb]
  rw [← hbody] at HPOST
  have hbs : body.size ≤ 2000000 := by rw [hbody]; exact putL_size (by simp) two_small
  have HSUM := Lib.hid (rsum_any body (Nat.le_trans hbs (by decide)))
  have h01 := crc_bd body
  clear HREP2 HS5 hb6 hbody hb
  go_wp2_with fail
  refine (HSUM.out _).mono ?_
  rintro e7 w7 ⟨rfl, rfl⟩
  have HSB : Hid (strOfNums (sumL (crcI 0 body)) = sumS body) := rfl
  obtain ⟨n, hn⟩ : ∃ n, n = crcI 0 body := ⟨_, rfl⟩
  rw [← hn] at HSB h01 ⊢
  have hn0 := h01.1
  have hn1 := h01.2
  have hconv := run_convert_bytes_arg (w7.alloc (.cells #[.int .u8 (n / 16777216), .int .u8 (n / 65536 % 256), .int .u8 (n / 256 % 256), .int .u8 (n % 256)] 5)) 144 5 Tryz.underlying144 Tryz.underlying5 w7.heap.size 0 4 4 (sumL n) rfl (fun i hi => by
    rw [cell_of_row _ _ _ _ _ _ (heap_alloc_new w7 _)]
    rcases (by omega : i = 0 ∨ i = 1 ∨ i = 2 ∨ i = 3) with e | e | e | e <;> rw [e] <;> rfl) 9 Tryz.underlying9
  have hcat : (strOfNums (sumL n)).size + body.size ≤ 9223372036854775807 := by
    have h4 : (strOfNums (sumL n)).size = 4 := rfl
    omega
  have HB := Lib.hid ((HS7.out.alloc (.cells #[.int .u8 (n / 16777216), .int .u8 (n / 65536 % 256), .int .u8 (n / 256 % 256), .int .u8 (n % 256)] 5)).below)
  clear HS7 hn h01 hbs
  go_wp2_with fail
  go_ret2
  exact ⟨by rw [← HPOST.out, ← HSB.out]; rfl, HB.out⟩
end Go.Proofs.YtdnpobjokajigaaGreatDoor
