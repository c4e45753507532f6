/-
  A text's sixteenths: hex.
-/
import Derived.Test.YtfphlkkhpccpnabDoorBase
import Derived.Test.YtfphlkkhpccpnabDoorBld
import Derived.WalkSpells
namespace Go.Proofs.YtfphlkkhpccpnabDoor
open Go.RowKit Go.Proofs K
set_option linter.unusedVariables false

def xd (n : Nat) : UInt8 := if n < 10 then UInt8.ofNat (48 + n) else UInt8.ofNat (87 + n)
def hexL (l : List UInt8) : List UInt8 := l.flatMap fun b => [xd (b.toNat / 16), xd (b.toNat % 16)]
theorem hexL_len (l : List UInt8) : (hexL l).length = l.length * 2 := flat_length (f := fun b : UInt8 => [xd (b.toNat / 16), xd (b.toNat % 16)]) (fun _ => rfl) l
theorem hexL_snoc (l : List UInt8) (b : UInt8) : hexL (l ++ [b]) = hexL l ++ [xd (b.toNat / 16)] ++ [xd (b.toNat % 16)] := by simp [hexL]
def digS : ByteArray := ⟨#[48, 49, 50, 51, 52, 53, 54, 55, 56, 57, 97, 98, 99, 100, 101, 102]⟩
theorem digS_size : digS.size = 16 := rfl
theorem digS_at : ∀ n : Fin 16, digS[n.val]'(by rw [digS_size]; exact n.2) = xd n := by decide
theorem dig_xd {n : Nat} (h : n < 16) (h2 : n < (⟨#[48, 49, 50, 51, 52, 53, 54, 55, 56, 57, 97, 98, 99, 100, 101, 102]⟩ : ByteArray).size) : (⟨#[48, 49, 50, 51, 52, 53, 54, 55, 56, 57, 97, 98, 99, 100, 101, 102]⟩ : ByteArray)[n] = xd n := digS_at ⟨n, h⟩
set_option maxRecDepth 100000 in
set_option maxHeartbeats 4000000 in
theorem hex_any (l : List UInt8) (hl : l.length ≤ 1000000) (w : World) : Calls Tryd.prog 15 #[.string (bs l)] w (RetV (.string (bs (hexL l))) w) := by
  have hconv := Lib.run_convert_string_bytes (P := Tryd.prog) (w.alloc (.cells #[.pointer none, .slice none 0 0] 59)) 9 23 5 (bs l) Tryd.underlying9 Tryd.underlying23 Tryd.underlying5
  obtain ⟨r, S15⟩ := bytes_st (newBld (St.start (ag_emp w)) 59) (bs l)
  obtain ⟨W, hW⟩ : ∃ W, W = Lib.bytesWorld (w.alloc (.cells #[.pointer none, .slice none 0 0] 59)) 5 (bs l) := ⟨_, rfl⟩
  rw [← hW] at hconv S15
  have hsz : (bs l).size = l.length := bs_size l
  rw [hsz] at hconv
  have HS : Hid (St empH w none_ empH W [blk (w.heap.size + 1) (bytesO l r), bldP 59 w.heap.size (hexL (l.take 0))]) := Lib.hid (by have := S15; simpa [bs, hexL] using this)
  clear hsz S15 hW
  go_enter Tryd.func15, Tryd.ntmps15
  go_wp2_with fail
  go_outline
  go_loopw [9] (fun i wr => ∃ k : Nat, i = .int .i64 k ∧ k ≤ l.length ∧ Hid (St empH w none_ empH wr [blk (w.heap.size + 1) (bytesO l r), bldP 59 w.heap.size (hexL (l.take k))])) (fun i _ => l.length - (intOf i).toNat)
  case atStart => exact ⟨0, rfl, Nat.zero_le _, HS⟩
  case round =>
    clear HS
    obtain ⟨k, rfl, hk, HS⟩ := hrel
    by_cases hlt : k < l.length
    · have hc := HS.out.cell 0 rfl (bytesO_at (r := r) hlt)
      have hgd : l.getD k 0 = l[k] := by rw [List.getD_eq_getElem?_getD, List.getElem?_eq_getElem hlt, Option.getD_some]
      rw [hgd] at hc
      have HT := Lib.hid (show hexL (l.take (k + 1)) = hexL (l.take k) ++ [xd (l[k].toNat / 16)] ++ [xd (l[k].toNat % 16)] by rw [List.take_succ_eq_append_getElem hlt]; exact hexL_snoc _ _)
      generalize l[k] = b at hc HT
      have hb8 := b.toNat_lt
      clear hgd
      have hln := HS.out
      have hlen : (hexL (l.take k)).length + 2 ≤ 140737488355328 := by
        rw [hexL_len, List.length_take]
        omega
      clear hln
      have HLN := Lib.hid hlen
      clear hlen
      go_wp2_with fail
      refine (writeByte_st HS.out 1 rfl bt_builder _ (by have := HLN.out; omega)).mono ?_
      rintro e w2 ⟨rfl, S2⟩
      rw [dig_xd (by omega)] at S2
      have HS2 := Lib.hid S2
      clear S2 HS hc
      go_wp2_with fail
      refine (writeByte_st HS2.out 0 rfl bt_builder _ (by have := HLN.out; rw [List.length_append]; simp; omega)).mono ?_
      rintro e w3 ⟨rfl, S3⟩
      rw [dig_xd (by omega), ← HT.out] at S3
      have HS3 := Lib.hid S3
      clear S3 HS2
      go_wp2_with fail
      go_roundw
      case rel => exact ⟨k + 1, by go_num, by omega, HS3.out.pick 1 rfl⟩
      case measure => simp [intOf]; omega
    · obtain rfl : k = l.length := by omega
      have HSE : Hid (St empH w none_ empH wr [blk (w.heap.size + 1) (bytesO l r), bldP 59 w.heap.size (hexL l)]) := Lib.hid (by have := HS.out; rwa [List.take_length] at this)
      clear HS
      go_wp2_with fail
      by_cases h0 : hexL l = []
      · have HS0 : Hid (St empH w none_ empH wr [blk (w.heap.size + 1) (bytesO l r), bldP 59 w.heap.size []]) := Lib.hid (by have := HSE.out; rwa [h0] at this)
        have HZ := Lib.hid h0
        clear h0 HSE
        refine (string0_st HS0.out 1 rfl).mono ?_
        rintro e w2 ⟨rfl, S2⟩
        go_wp2_with fail
        go_ret
        exact ⟨by rw [HZ.out]; rfl, S2.below⟩
      · refine (string_st HSE.out 1 rfl h0).mono ?_
        rintro e w2 ⟨rfl, S2⟩
        go_wp2_with fail
        go_ret
        exact ⟨rfl, S2.below⟩
end Go.Proofs.YtfphlkkhpccpnabDoor
