/-
  A number out of two sixteenths at most: strconv's.
-/
import Derived.Test.YtfphlkkhpccpnabDoorBase
import Derived.WalkSpells
import Derived.Deep.Cut
namespace Go.Proofs.YtfphlkkhpccpnabDoor
open Go.RowKit Go.Proofs K
set_option linter.unusedVariables false

def isHex (b : UInt8) : Prop := (48 ≤ b.toNat ∧ b.toNat ≤ 57) ∨ (97 ≤ b.toNat ∧ b.toNat ≤ 102)
def hexD (b : UInt8) : Nat := if b.toNat ≤ 57 then b.toNat - 48 else b.toNat - 87
def hexV (l : List UInt8) : Nat := l.foldl (fun n b => n * 16 + hexD b) 0
theorem hexV_snoc (l : List UInt8) (b : UInt8) : hexV (l ++ [b]) = hexV l * 16 + hexD b := by unfold hexV; rw [List.foldl_append]; rfl
theorem hexD_lt {b : UInt8} (h : isHex b) : hexD b < 16 := by
  unfold hexD
  rcases h with h | h <;> split <;> omega
theorem hexV_lt : ∀ {l : List UInt8}, (∀ b ∈ l, isHex b) → hexV l < 16 ^ l.length := by
  intro l
  induction hn : l.length generalizing l with
  | zero =>
    intro _
    obtain rfl := List.eq_nil_of_length_eq_zero hn
    decide
  | succ n ih =>
    intro h
    rcases List.eq_nil_or_concat l with e | ⟨l', b, e⟩
    · subst e; cases hn
    · rw [List.concat_eq_append] at e
      subst e
      rw [hexV_snoc]
      have h1 := ih (l := l') (by simpa using hn) fun b hb => h b (by simp [hb])
      have h2 := hexD_lt (h b (by simp))
      rw [Nat.pow_succ]
      omega
theorem lower_any (c : UInt8) (h : 97 ≤ c.toNat ∧ c.toNat ≤ 102) (w : World) : Calls Tryd.prog 30 #[.int .u8 c.toNat] w (fun e w' => e = .returned (.int .u8 c.toNat) ∧ w = w') := by
  have hb : bits .or .u8 (c.toNat : Int) 32 = (c.toNat : Int) := by
    obtain ⟨h1, h2⟩ := h
    rcases (by omega : c.toNat = 97 ∨ c.toNat = 98 ∨ c.toNat = 99 ∨ c.toNat = 100 ∨ c.toNat = 101 ∨ c.toNat = 102) with e | e | e | e | e | e <;> rw [e] <;> decide
  clear h
  go_enter Tryd.func30, Tryd.ntmps30
  go_wp2_with fail
  go_ret
  exact ⟨rfl, rfl⟩
set_option maxRecDepth 100000 in
set_option maxHeartbeats 4000000 in
theorem parse16_any (l : List UInt8) (hl : l.length ≤ 2) (h0 : 0 < l.length) (hx : ∀ b ∈ l, isHex b) (w : World) :
    Calls Tryd.prog 23 #[.string (bs l), .int .i64 16, .int .i64 8] w (RetV (.tuple #[.int .u64 (hexV l), .nilIface]) w) := by
  have hconv := Lib.run_convert_string_bytes (P := Tryd.prog) w 9 23 5 (bs l) Tryd.underlying9 Tryd.underlying23 Tryd.underlying5
  obtain ⟨r, S15⟩ := bytes_st (St.start (ag_emp w)) (bs l)
  have hsz : (bs l).size = l.length := bs_size l
  have hne : ((bs l).toList == ([] : List UInt8)) = false := by
    rw [beq_eq_false_iff_ne, ByteArray.toList_eq]
    intro h
    have : l = [] := by simpa [bs] using h
    rw [this] at h0
    cases h0
  obtain ⟨W, hW⟩ : ∃ W, W = Lib.bytesWorld w 5 (bs l) := ⟨_, rfl⟩
  rw [← hW] at hconv S15
  rw [hsz] at hconv
  have HS : Hid (St empH w none_ empH W [blk w.heap.size (bytesO l r)]) := Lib.hid (by have := S15; simpa [bs] using this)
  have HX := Lib.hid hx
  clear hsz S15 hW hx
  go_enter Tryd.func23, Tryd.ntmps23
  go_wp2_with fail
  go_loopw [12, 13, 101] (fun z n i wr => ∃ k : Nat, i = .int .i64 k ∧ k ≤ l.length ∧ z = .bool false ∧ n = .int .u64 (hexV (l.take k)) ∧ Hid (St empH w none_ empH wr [blk w.heap.size (bytesO l r)])) (fun _ _ i _ => l.length - (intOf i).toNat)
  case atStart => exact ⟨0, rfl, Nat.zero_le _, rfl, rfl, HS⟩
  case round =>
    clear HS
    obtain ⟨k, rfl, hk, rfl, rfl, HS⟩ := hrel
    by_cases hlt : k < l.length
    · have hc := HS.out.cell 0 rfl (bytesO_at (r := r) hlt)
      have hbx := HX.out _ (List.getElem_mem hlt)
      have hgd : l.getD k 0 = l[k] := by rw [List.getD_eq_getElem?_getD, List.getElem?_eq_getElem hlt]; rfl
      rw [hgd] at hc
      have hv := hexV_lt (l := l.take k) fun b hb => HX.out b (List.mem_of_mem_take hb)
      rw [List.length_take, Nat.min_eq_left (Nat.le_of_lt hlt)] at hv
      have hv16 : hexV (l.take k) < 16 := Nat.lt_of_lt_of_le hv (Nat.pow_le_pow_right (by decide) (show k ≤ 1 by omega))
      have HT := Lib.hid (show hexV (l.take (k + 1)) = hexV (l.take k) * 16 + hexD l[k] by rw [List.take_succ_eq_append_getElem hlt, hexV_snoc])
      generalize hexV (l.take k) = n at hv16 HT ⊢
      generalize l[k] = b at hbx hc HT
      clear hgd hv
      have hb8 := b.toNat_lt
      rcases hbx with ⟨h1, h2⟩ | ⟨h1, h2⟩
      · have hD := Lib.hid (show hexD b = b.toNat - 48 by unfold hexD; rw [if_pos h2])
        have e95 : ((b.toNat : Int) == 95) = false := by rw [beq_eq_false_iff_ne]; omega
        have a1 : (48 : Int) ≤ (b.toNat : Int) := by omega
        have a2 : (b.toNat : Int) ≤ 57 := by omega
        have a4 : ¬ (1152921504606846976 : Int) ≤ (n : Int) := by omega
        have a3 : ¬ (16 : Int) ≤ (b.toNat : Int) - 48 := by omega
        go_wp2_with fail
        go_roundw
        case rel => exact ⟨k + 1, by go_num, by omega, rfl, by rw [HT.out, hD.out]; go_num, HS⟩
        case measure => simp [intOf]; omega
      · obtain ⟨d, hd, hd1, hd2⟩ : ∃ d : Nat, b.toNat = d ∧ 97 ≤ d ∧ d ≤ 102 := ⟨b.toNat, rfl, h1, h2⟩
        have hD := Lib.hid (show hexD b = d - 87 by unfold hexD; rw [if_neg (by omega), hd])
        have hcast : ((b.toNat : Nat) : Int) = (d : Int) := by omega
        have HLW : Hid (∀ w, Calls Tryd.prog 30 #[.int .u8 (d : Int)] w (fun e w' => e = .returned (.int .u8 (d : Int)) ∧ w = w')) := Lib.hid (by rw [← hcast]; exact lower_any b ⟨h1, h2⟩)
        rw [hcast] at hc
        clear hcast hd h1 h2 hb8
        obtain ⟨M, hM, hM16⟩ : ∃ M : Int, (1152921504606846976 : Int) = M ∧ 16 ≤ M := ⟨_, rfl, by decide⟩
        rw [hM]
        have a4 : ¬ M ≤ (n : Int) := by omega
        clear hM hM16
        rcases (by omega : d = 97 ∨ d = 98 ∨ d = 99 ∨ d = 100 ∨ d = 101 ∨ d = 102) with rfl | rfl | rfl | rfl | rfl | rfl
        all_goals
          clear hd1 hd2
          go_wp2_with fail
          refine (HLW.out _).mono ?_
          rintro e w2 ⟨rfl, rfl⟩
          go_wp2_with fail
          refine (HLW.out _).mono ?_
          rintro e w2 ⟨rfl, rfl⟩
          go_wp2_with fail
          refine (HLW.out _).mono ?_
          rintro e w2 ⟨rfl, rfl⟩
          go_wp2_with fail
          go_roundw
          case rel => exact ⟨k + 1, by go_num, by omega, rfl, by rw [HT.out, hD.out]; go_num, HS⟩
          case measure => simp [intOf]; omega
    · obtain rfl : k = l.length := by omega
      have HF := Lib.hid (show hexV (l.take l.length) = hexV l by rw [List.take_length])
      go_wp2_with fail
      go_ret2
      exact ⟨by rw [← HF.out]; rfl, HS.out.below⟩
end Go.Proofs.YtfphlkkhpccpnabDoor
