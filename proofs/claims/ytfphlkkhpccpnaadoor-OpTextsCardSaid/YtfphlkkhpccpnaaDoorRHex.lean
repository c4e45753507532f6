/-
  The document's chapter 12: Hex.
-/
import Derived.Test.YtfphlkkhpccpnaaDoorOpEach
import Derived.Deep.QuietTactic
import Derived.BigQuiet
namespace Go.Proofs.YtfphlkkhpccpnaaDoor
open Go.RowKit Go.Proofs K
set_option linter.unusedVariables false

theorem dig_cut : ∀ n : Fin 16, digS.extract n.val (n.val + 1) = bs [xd n.val] := by decide
set_option maxRecDepth 100000 in
set_option maxHeartbeats 4000000 in
theorem rhex_any (l : List UInt8) (hl : l.length ≤ 1000000) (w : World) : Calls Tryd.prog 60 #[.string (bs l)] w (RetV (.string (bs (hexL l))) w) := by
  have hsz : (bs l).size = l.length := bs_size l
  go_enter Tryd.func60, Tryd.ntmps60
  go_wp2_with fail
  go_loopw [3, 4] (fun v i wr => ∃ k : Nat, i = .int .i64 k ∧ k ≤ l.length ∧ v = .string (bs (hexL (l.take k))) ∧ Hid (St empH w none_ empH wr [])) (fun _ i _ => l.length - (intOf i).toNat)
  case atStart => exact ⟨0, rfl, Nat.zero_le _, rfl, Lib.hid (St.start (ag_emp w))⟩
  case round =>
    obtain ⟨k, rfl, hk, rfl, HW⟩ := hrel
    by_cases hlt : k < l.length
    · have hk2 : k < (bs l).size := by rw [hsz]; exact hlt
      have hbb : ∃ b, (bs l)[k]'hk2 = b ∧ l.take (k + 1) = l.take k ++ [b] := ⟨_, rfl, by
        rw [List.take_succ_eq_append_getElem hlt, bs_at hk2, List.getD_eq_getElem?_getD, List.getElem?_eq_getElem hlt, Option.getD_some]⟩
      obtain ⟨b, hb, htk⟩ := hbb
      have HT := Lib.hid (show hexL (l.take (k + 1)) = hexL (l.take k) ++ [xd (b.toNat / 16)] ++ [xd (b.toNat % 16)] by rw [htk]; exact hexL_snoc _ _)
      clear htk
      have hb8 := b.toNat_lt
      obtain ⟨x, hx⟩ : ∃ x : Nat, x = b.toNat / 16 := ⟨_, rfl⟩
      obtain ⟨y, hy⟩ : ∃ y : Nat, y = b.toNat % 16 := ⟨_, rfl⟩
      have hx16 : x < 16 := by omega
      have hy16 : y < 16 := by omega
      have hxe : (b.toNat : Int) / 16 = (x : Int) := by omega
      have hye : (b.toNat : Int) % 16 = (y : Int) := by omega
      rw [← hx, ← hy] at HT
      have HXY := Lib.hid (And.intro hx hy)
      clear hx hy
      go_wp2_with fail
      rw [hye]
      clear hxe hye
      have sx1 : IntKind.i64.wrap ((x : Int) + 1) = (x : Int) + 1 := IntWalk.i64_in _ (by omega)
      have sx2 : (0 : Int) ≤ (x : Int) + 1 := by omega
      have sx3 : ((x : Int) + 1).toNat = x + 1 := by omega
      have sx4 : (x : Int) + 1 ≤ 16 := by omega
      have sx5 : (x : Int) ≤ (x : Int) + 1 := by omega
      have sy1 : IntKind.i64.wrap ((y : Int) + 1) = (y : Int) + 1 := IntWalk.i64_in _ (by omega)
      have sy2 : (0 : Int) ≤ (y : Int) + 1 := by omega
      have sy3 : ((y : Int) + 1).toNat = y + 1 := by omega
      have sy4 : (y : Int) + 1 ≤ 16 := by omega
      have sy5 : (y : Int) ≤ (y : Int) + 1 := by omega
      have ex : (⟨#[48, 49, 50, 51, 52, 53, 54, 55, 56, 57, 97, 98, 99, 100, 101, 102]⟩ : ByteArray).extract x (x + 1) = bs [xd x] := dig_cut ⟨x, hx16⟩
      have ey : (⟨#[48, 49, 50, 51, 52, 53, 54, 55, 56, 57, 97, 98, 99, 100, 101, 102]⟩ : ByteArray).extract y (y + 1) = bs [xd y] := dig_cut ⟨y, hy16⟩
      have hln : (bs (hexL (l.take k))).size ≤ 2000000 := by rw [bs_size, hexL_len, List.length_take]; omega
      have h1x : (bs [xd x]).size = 1 := rfl
      have h1y : (bs [xd y]).size = 1 := rfl
      have hcat : (9223372036854775807 < (bs (hexL (l.take k))).size + (bs [xd x]).size) = False := eq_false (by omega)
      have hcat2 : (9223372036854775807 < (bs (hexL (l.take k))).size + (bs [xd x]).size + (bs [xd y]).size) = False := eq_false (by omega)
      clear hln h1x h1y
      go_quiet (fail)
      have HT2 : Hid (bs (hexL (l.take k)) ++ bs [xd x] ++ bs [xd y] = bs (hexL (l.take (k + 1)))) := Lib.hid (by
        rw [HT.out]
        apply ByteArray.ext
        simp [bs])
      go_wp2_with fail
      rw [HT2.out]
      go_roundw
      case rel => exact ⟨k + 1, by go_num, by omega, rfl, HW.out.drewN _⟩
      case measure => simp [intOf]; omega
    · obtain rfl : k = l.length := by omega
      have HF := Lib.hid (show l.take l.length = l from List.take_length)
      go_wp2_with fail
      go_ret
      exact ⟨by show Ending.returned (.string (bs (hexL (l.take l.length)))) = _; rw [HF.out], HW.out.below⟩
end Go.Proofs.YtfphlkkhpccpnaaDoor
