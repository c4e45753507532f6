/-
  The chapter's examples.
-/
import Derived.Test.YtfphlkkhpccpnaaAdd
namespace Go.Proofs.Ytfphlkkhpccpnaa
open Go.RowKit Go.Proofs K

def addrA : ByteArray := ⟨#[97, 97, 97, 97, 97, 97, 97, 97, 97, 97, 97, 97, 97, 97, 97, 97, 97, 97, 97, 97]⟩
def txE : TxS := { tx0 with frm := addrA }
theorem small_nil {t : TxS} (h : t.acc = []) : t.small := ⟨by rw [h]; decide, by rw [h]; intro a ha; cases ha⟩
theorem rep_nil (H : Hs) : RepV H (.slice none 0 0) (accsD []) := .sl (Nat.le_refl _) (fun _ => rfl) rfl (.inl rfl) .nil

set_option maxRecDepth 100000 in
set_option maxHeartbeats 4000000 in
theorem examples_any (H : Hs) (w : World) (hw : Ag H w) : Calls Try.prog 7 #[] w (RetBool true H w) := by
  have HW := Lib.hid hw
  go_enter Try.func7, Try.ntmps7
  go_wp2_with fail
  refine (new_any H w hw).mono ?_
  rintro e w1 ⟨p, rfl, S1⟩
  have S1a := Lib.hid (S1.alloc (tx0.obj (.slice none 0 0)))
  clear S1
  go_wp2_with (first
    | (refine wpList_store_st (cs := txE.cells (.slice none 0 0)) 0 S1a.out rfl rfl 33 (.tmp 2) (.tmp 10) rfl rfl rfl szTx rfl oneTx ?_; clear S1a; intro w2 S2)
    | (refine wpList_load_st 0 S2 rfl rfl 33 (.tmp 2) rfl rfl _ Try.underlying33 rfl szTx ?_)
    | fail)
  obtain ⟨F1, hp1, hF1, k1⟩ := S2.step (i := 1) rfl
  refine (add_any p [] [] txE (.slice none 0 0) F1 H H _ S2.ag (fun b hb => (hF1 b hb).2) S2.ag hp1 hF1 .nil (rep_nil _) (small_nil rfl)).mono ?_
  rintro e w3 ⟨m3, H3, rfl, hl3, S3'⟩
  have S3 := k1 _ _ _ S3'
  have HS3 := Lib.hid S3
  clear S3 S3' k1 hp1 hF1 S2 hw
  rw [show addE [] txE = 0 from rfl]
  go_wp2_with (first
    | (refine wpList_load_st 1 HS3.out rfl rfl 33 (.tmp 2) rfl rfl _ Try.underlying33 rfl szTx ?_)
    | fail)
  obtain ⟨F1, hp1, hF1, k1⟩ := HS3.out.step (i := 0) rfl
  refine (add_any p m3 [txE] txE (.slice none 0 0) F1 H3 H3 _ HS3.out.ag (fun b hb => (hF1 b hb).2) HS3.out.ag hp1 hF1 hl3 (rep_nil _) (small_nil rfl)).mono ?_
  rintro e w4 ⟨m4, H4, rfl, hl4, S4'⟩
  have HS4 := Lib.hid (k1 _ _ _ S4')
  clear HS3 S4' k1 hp1 hF1
  rw [show addE [txE] txE = 18 from rfl]
  have c1 : w4.cell? ⟨w1.heap.size, 1, none⟩ = some (.string addrA) := HS4.out.cell 1 rfl rfl
  go_wp2_with fail
  obtain ⟨F1, hp1, hF1, k1⟩ := HS4.out.step (i := 0) rfl
  refine (get_any p m4 [txE] addrA 0 F1 H4 _ HS4.out.ag hp1 hF1 hl4 (by intro t ht; simp at ht; subst ht; exact small_nil rfl)).mono ?_
  rintro e w5 ⟨s5, H5, _, rfl, hr5, S5', _, _, _⟩
  obtain ⟨A5, c5, cs5, rfl, _⟩ := hr5.sl_inv
  have HS5 := Lib.hid ((k1 _ _ _ S5').alloc (tx0.obj (.slice none 0 0)))
  have HL5 := Lib.hid (hl4.le S5'.le)
  clear HS4 S5' k1 hp1 hF1 c1 hl4 hl3
  go_wp2_with (first
    | (refine wpList_store_st (cs := txE.cells _) 0 HS5.out rfl rfl 33 (.tmp 5) (.tmp 22) rfl rfl rfl szTx rfl oneTx ?_; clear HS5; intro w6 S6; have c1 : w6.cell? ⟨w5.heap.size, 1, none⟩ = some (.string addrA) := S6.cell 0 rfl rfl; have c2 : w6.cell? ⟨w1.heap.size, 1, none⟩ = some (.string addrA) := S6.cell 2 rfl rfl; have HS6 := Lib.hid S6; clear S6)
    | fail)
  obtain ⟨F1, hp1, hF1, k1⟩ := HS6.out.step (i := 1) rfl
  refine (len_any p m4 F1 H5 _ HS6.out.ag hp1 hF1).mono ?_
  rintro e w7 ⟨rfl, S7'⟩
  have HS7 := Lib.hid (k1 _ _ _ S7')
  have c3 : w7.cell? ⟨w1.heap.size, 1, none⟩ = some (.string addrA) := HS7.out.cell 2 rfl rfl
  rw [show m4.length = 1 from HL5.out.len]
  clear HS6 S7' k1 hp1 hF1 c1 c2
  go_wp2_with fail
  obtain ⟨F1, hp1, hF1, k1⟩ := HS7.out.step (i := 0) rfl
  refine (remove_any p m4 [txE] addrA 0 F1 H5 _ HS7.out.ag hp1 hF1 HL5.out).mono ?_
  rintro e w8 ⟨rfl, S8'⟩
  have hlk : (mlook m4 (addrA, 0)).isSome = true := by
    rcases HL5.out.look (addrA, 0) with ⟨h1, h2⟩ | ⟨t, s, h1, h2, h3⟩
    · cases h2
    · rw [h1]; rfl
  rw [hlk]
  have HS8 := Lib.hid (k1 _ _ _ S8')
  have HL8 : Hid (Txs H5 (del m4 (addrA, 0)) []) := HL5.out.del (addrA, 0)
  clear HS7 S8' k1 hp1 hF1 c3 hlk HL5
  go_wp2_with fail
  obtain ⟨F1, hp1, hF1, k1⟩ := HS8.out.step (i := 0) rfl
  refine (len_any p _ F1 H5 _ HS8.out.ag hp1 hF1).mono ?_
  rintro e w9 ⟨rfl, S9'⟩
  rw [show (del m4 (addrA, 0)).length = 0 from HL8.out.len]
  have HS9 := Lib.hid (k1 _ _ _ S9')
  clear HS8 S9' k1 hp1 hF1
  go_wp2_with fail
  obtain ⟨F1, hp1, hF1, k1⟩ := HS9.out.step (i := 0) rfl
  refine (add_any p _ [] tx0 (.slice none 0 0) F1 H5 H5 _ HS9.out.ag (fun b hb => (hF1 b hb).2) HS9.out.ag hp1 hF1 HL8.out (rep_nil _) (small_nil rfl)).mono ?_
  rintro e w10 ⟨m10, H10, rfl, hl10, S10'⟩
  have HSx := Lib.hid (k1 _ _ _ S10')
  rw [show addE [] tx0 = 1 from rfl]
  clear HS9 S10' k1 hp1 hF1 hl10 HL8
  go_wp2_with fail
  go_ret
  exact ⟨rfl, St.of_below HW.out HSx.out.below⟩
end Go.Proofs.Ytfphlkkhpccpnaa
