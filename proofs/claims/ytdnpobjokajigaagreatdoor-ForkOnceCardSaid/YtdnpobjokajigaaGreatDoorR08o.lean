/-
  The document's own PutReply: a reply of an account; all.
-/
import Derived.Test.YtdnpobjokajigaaGreatDoorR08r
namespace Go.Proofs.YtdnpobjokajigaaGreatDoor
open Go.RowKit Go.Proofs K
set_option linter.unusedVariables false

set_option maxRecDepth 100000 in
set_option maxHeartbeats 4000000 in
theorem rputReply_one (kind id nonce a b c d : Int) (code : ByteArray) (hid : W64 id) (hno : W64 nonce) (ha : W64 a) (hb : W64 b) (hc : W64 c) (hd : W64 d) (hl : code.size ≤ 24576) (h1 : kind = 1) (w : World) (r : ByteArray) (hr : r = replyB [numS id, numS nonce, wordS a b c d, code]) :
    Calls Tryz.prog 83 #[.int .i64 kind, .agg (replyC id nonce a b c d code 0 0 0 0)] w (RetV (.tuple #[.string r, .bool true]) w) := by
  have HPOST := Lib.hid (show Ending.returned (.tuple #[.string (sumS (putL [numS id, numS nonce, wordS a b c d, code]) ++ putL [numS id, numS nonce, wordS a b c d, code]), .bool true]) = Ending.returned (.tuple #[.string r, .bool true]) by rw [hr]; rfl)
  have HLC := Lib.hid hl
  have HID := Lib.hid (rnumber_any id hid)
  have HNO := Lib.hid (rnumber_any nonce hno)
  have HWB := Lib.hid (rwbytes_any a b c d ha hb hc hd)
  have hl' : ¬ (24576 : Int) < (code.size : Int) := by omega
  have e1 : (kind == 1) = true := beq_iff_eq.2 h1
  clear hl h1 hr hid hno ha hb hc hd
  have HW : Hid (St empH w none_ empH (w.alloc (.cells (replyC id nonce a b c d code 0 0 0 0) 161)) [blk w.heap.size (.cells (replyC id nonce a b c d code 0 0 0 0) 161)]) := (St.start (ag_emp w)).alloc _
  have k0 : (w.alloc (.cells (replyC id nonce a b c d code 0 0 0 0) 161)).cell? ⟨w.heap.size, 0, none⟩ = some (.int .u64 id) := HW.out.cell 0 rfl rfl
  go_enter Tryz.func83, Tryz.ntmps83
  go_wp2_with fail
  refine (HID.out _).mono ?_
  rintro e0 w1 ⟨rfl, hb1⟩
  have HS1 : Hid (St empH w none_ empH w1 [blk w.heap.size (.cells (replyC id nonce a b c d code 0 0 0 0) 161)]) := HW.out.grow hb1
  have HS2 : Hid (St empH w none_ empH (w1.alloc (.cells #[.bool false, .string (numS id), .slice none 0 0] 155)) [own 155 3 (.slice (some ⟨w1.heap.size, 0, none⟩) 1 1) 1 (textsC [numS id]), blk w.heap.size (.cells (replyC id nonce a b c d code 0 0 0 0) 161)]) := HS1.out.madeRow #[.bool false, .string (numS id), .slice none 0 0] rfl (by decide)
  have hwl : w.heap.size < w1.heap.size := HS1.out.blk_lt 0 rfl
  have k6 : w1.cell? ⟨w.heap.size, 6, none⟩ = some (.string code) := HS1.out.cell 0 rfl rfl
  have k7 : w1.cell? ⟨w.heap.size, 7, none⟩ = some (.int .u64 0) := HS1.out.cell 0 rfl rfl
  have k8 : w1.cell? ⟨w.heap.size, 8, none⟩ = some (.int .u64 0) := HS1.out.cell 0 rfl rfl
  have k9 : w1.cell? ⟨w.heap.size, 9, none⟩ = some (.int .u64 0) := HS1.out.cell 0 rfl rfl
  have k10 : w1.cell? ⟨w.heap.size, 10, none⟩ = some (.int .u64 0) := HS1.out.cell 0 rfl rfl
  clear hb1 HW k0
  go_wp2_with fail
  obtain ⟨W, hW⟩ : ∃ W, W = w1.alloc (.cells #[.bool false, .string (numS id), .slice none 0 0] 155) := ⟨_, rfl⟩
  rw [← hW] at HS2 ⊢
  have f1 : ∀ w', Below W.heap.size W w' → w'.cell? ⟨w.heap.size, 1, none⟩ = some (.int .u64 nonce) := fun w' h => (HS2.out.grow h).cell 1 rfl rfl
  have f2 : ∀ w', Below W.heap.size W w' → w'.cell? ⟨w.heap.size, 2, none⟩ = some (.int .u64 a) := fun w' h => (HS2.out.grow h).cell 1 rfl rfl
  have f3 : ∀ w', Below W.heap.size W w' → w'.cell? ⟨w.heap.size, 3, none⟩ = some (.int .u64 b) := fun w' h => (HS2.out.grow h).cell 1 rfl rfl
  have f4 : ∀ w', Below W.heap.size W w' → w'.cell? ⟨w.heap.size, 4, none⟩ = some (.int .u64 c) := fun w' h => (HS2.out.grow h).cell 1 rfl rfl
  have f5 : ∀ w', Below W.heap.size W w' → w'.cell? ⟨w.heap.size, 5, none⟩ = some (.int .u64 d) := fun w' h => (HS2.out.grow h).cell 1 rfl rfl
  have f6 : ∀ w', Below W.heap.size W w' → w'.cell? ⟨w.heap.size, 6, none⟩ = some (.string code) := fun w' h => (HS2.out.grow h).cell 1 rfl rfl
  have hb0 : Below W.heap.size W W.drew := (Below.refl _ _).drew
  obtain ⟨i0, hi, hz0, hz1, hz2⟩ := info_parts infoRItemP
  clear hW k6 k7 k8 k9 k10 HS1 hwl
  go_region_law (first
    | (go_simp; go_at_call 143; refine (retFrom (W := W) ?_ (HNO.out _)).mono ?_; (first | assumption | exact (Below.refl _ _).drew); rintro e2 w2 ⟨rfl, hb2⟩)
    | (go_simp; go_at_call 145; refine (retFrom (W := W) ?_ (HWB.out _)).mono ?_; (first | assumption | exact (Below.refl _ _).drew); rintro e3 w3 ⟨rfl, hb3⟩)
    | (go_simp; go_at_call 144; refine (retFrom (W := W) ?_ (rtext_any _ _)).mono ?_; (first | assumption | exact (Below.refl _ _).drew); rintro e4 w4 ⟨rfl, hb4⟩; have HS3 : Hid (St empH w none_ empH (w4.alloc (.cells #[.bool false, .string (numS nonce), .slice none 0 0, .bool false, .string (wordS a b c d), .slice none 0 0, .bool false, .string code, .slice none 0 0] 155)) [own 155 3 (.slice (some ⟨w4.heap.size, 0, none⟩) 3 3) 3 (textsC [numS nonce, wordS a b c d, code]), own 155 3 (.slice (some ⟨w1.heap.size, 0, none⟩) 1 1) 1 (textsC [numS id]), blk w.heap.size (.cells (replyC id nonce a b c d code 0 0 0 0) 161)]) := (HS2.out.grow hb4).madeRow #[.bool false, .string (numS nonce), .slice none 0 0, .bool false, .string (wordS a b c d), .slice none 0 0, .bool false, .string code, .slice none 0 0] rfl (by decide))
    | (refine step_append_st 1 155 HS3.out rfl rfl (.tmp 28) (.tmp 42) 153 rfl i0 _ 48 Tryz.underlying153 hi hz0 hz1 hz2 rfl (by decide) rfl ⟨w4.heap.size, 0, none⟩ 3 3 (textsC [numS nonce, wordS a b c d, code]) rfl rfl (fun j u hj => ?_) ?_ ?_ ?_ ?_; (rw [Addr.add_lit, Nat.zero_add]; exact (HS3.out.ownCell 0 rfl j (by have := (List.getElem?_eq_some_iff.1 hj).1; simpa [textsC, textC] using this)).trans hj); (simp [textsC, textC, Value.oneCell']); (unfold maxLen; omega); omega; intro A4 c4 w5 S4))
  all_goals
    obtain ⟨H', hle, hrep, S5⟩ := S4.keepOwn 0 rfl (ds := itsD ([numS id, numS nonce, wordS a b c d, code].map It.text)) (texts_rep empH [numS id, numS nonce, wordS a b c d, code])
    have HREP : Hid (∀ A cp, RepV H' (.slice A 4 cp) (.sl 3 4 (itsD ([numS id, numS nonce, wordS a b c d, code].map It.text))) → RepL H' [.bool true, .string ⟨#[]⟩, .slice A 4 cp] (It.list ([numS id, numS nonce, wordS a b c d, code].map It.text)).d) := Lib.hid fun A cp h => by unfold It.d; exact .cons (.pl rfl) (.cons (.pl rfl) (.cons h .nil))
    have HREP2 := Lib.hid (HREP.out _ _ hrep)
    have HS5 := Lib.hid S5
    clear S5 hrep HREP
    go_wp2_with fail
    refine (renc_ok (.list ([numS id, numS nonce, wordS a b c d, code].map It.text)) (put_short (by simp)) _ _ _ _ _ HS5.out.ag HREP2.out (put_len (by simp) (four_small HLC.out))).mono ?_
    rintro e6 w6 ⟨rfl, hb6⟩
    have HS7 := Lib.hid (HS5.out.grow hb6)
    obtain ⟨body, hbody⟩ : ∃ body, body = putL [numS id, numS nonce, wordS a b c d, code] := ⟨_, rfl⟩
    have hb : (It.list ([numS id, numS nonce, wordS a b c d, code].map It.text)).bytes = body := by rw [hbody]; rfl
    rw [hb]
    rw [← hbody] at HPOST
    have hbs : body.size ≤ 2000000 := by rw [hbody]; exact putL_size (by simp) (four_small HLC.out)
    have HSUM := Lib.hid (rsum_any body (Nat.le_trans hbs (by decide)))
    have h01 := crc_bd body
    clear HREP2 HS5 hb6 hbody hb
    go_wp2_with fail
    refine (HSUM.out _).mono ?_
    rintro e7 w7 ⟨rfl, rfl⟩
    have HSB : Hid (strOfNums (sumL (crcI 0 body)) = sumS body) := rfl
    obtain ⟨n, hn⟩ : ∃ n, n = crcI 0 body := ⟨_, rfl⟩
    rw [← hn] at HSB h01 ⊢
    have hn0 := h01.1
    have hn1 := h01.2
    have hconv := run_convert_bytes_arg (w7.alloc (.cells #[.int .u8 (n / 16777216), .int .u8 (n / 65536 % 256), .int .u8 (n / 256 % 256), .int .u8 (n % 256)] 5)) 144 5 Tryz.underlying144 Tryz.underlying5 w7.heap.size 0 4 4 (sumL n) rfl (fun i hi => by
      rw [cell_of_row _ _ _ _ _ _ (heap_alloc_new w7 _)]
      rcases (by omega : i = 0 ∨ i = 1 ∨ i = 2 ∨ i = 3) with e | e | e | e <;> rw [e] <;> rfl) 9 Tryz.underlying9
    have hcat : (strOfNums (sumL n)).size + body.size ≤ 9223372036854775807 := by
      have h4 : (strOfNums (sumL n)).size = 4 := rfl
      omega
    have HB := Lib.hid ((HS7.out.alloc (.cells #[.int .u8 (n / 16777216), .int .u8 (n / 65536 % 256), .int .u8 (n / 256 % 256), .int .u8 (n % 256)] 5)).below)
    clear HS7 hn h01 hbs
    go_wp2_with fail
    go_ret2
    exact ⟨by rw [← HPOST.out, ← HSB.out]; rfl, HB.out⟩
theorem rputReply_all (kind id nonce a b c d : Int) (code : ByteArray) (e f g h : Int) (hid : W64 id) (hno : W64 nonce) (ha : W64 a) (hb : W64 b) (hc : W64 c) (hd : W64 d) (he : W64 e) (hf : W64 f) (hg : W64 g) (hh : W64 h) (w : World) :
    Calls Tryz.prog 83 #[.int .i64 kind, .agg (replyC id nonce a b c d code e f g h)] w (RetV (.tuple #[.string (putReplyR kind id nonce a b c d code e f g h).1, .bool (putReplyR kind id nonce a b c d code e f g h).2]) w) := by
  unfold putReplyR
  by_cases hl : 24576 < code.size
  · rw [if_pos hl]
    exact rputReply_long kind id nonce a b c d code e f g h hid hl w
  · rw [if_neg hl]
    have hl' : code.size ≤ 24576 := by omega
    by_cases h1 : kind = 1
    · rw [if_pos h1]
      by_cases hz : e = 0 ∧ f = 0 ∧ g = 0 ∧ h = 0
      · rw [if_pos hz]
        obtain ⟨rfl, rfl, rfl, rfl⟩ := hz
        exact rputReply_one kind id nonce a b c d code hid hno ha hb hc hd hl' h1 w _ rfl
      · rw [if_neg hz]
        exact rputReply_value kind id nonce a b c d code e f g h hid hl' h1 hz w
    · rw [if_neg h1]
      by_cases h2 : kind = 2
      · rw [if_pos h2]
        by_cases hz : nonce = 0 ∧ (a = 0 ∧ b = 0 ∧ c = 0 ∧ d = 0) ∧ code.toList = []
        · rw [if_pos hz]
          obtain ⟨rfl, ⟨rfl, rfl, rfl, rfl⟩, hz⟩ := hz
          have hz' : code = ⟨#[]⟩ := by
            rw [ByteArray.toList_eq] at hz
            exact ByteArray.ext (Array.toList_inj.1 hz)
          subst hz'
          exact rputReply_two kind id e f g h hid he hf hg hh h2 w _ rfl
        · rw [if_neg hz]
          exact rputReply_account kind id nonce a b c d code e f g h hid hl' h2 hz w
      · rw [if_neg h2]
        exact rputReply_kind kind id nonce a b c d code e f g h hid hl' h1 h2 w
end Go.Proofs.YtdnpobjokajigaaGreatDoor
