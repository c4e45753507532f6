/-
  OpTexts: the walk.
-/
import Derived.Test.YtfphlkkhpccpnaaDoorRTxt
import Derived.Test.YtfphlkkhpccpnaaDoorOpEx
import Derived.Test.YtfphlkkhpccpnaaDoorRowO
namespace Go.Proofs.YtfphlkkhpccpnaaDoor
open Go.RowKit Go.Proofs K
set_option linter.unusedVariables false

theorem strs_eq (x : List UInt8) : ((bs x).toList == (bs x).toList) = true := by simp
set_option maxRecDepth 100000 in
set_option maxHeartbeats 8000000 in
theorem texts_any (s : List UInt8) (hs : s.length ≤ 140737488355328) (w : World) (hm : MaxAt w) : Calls Tryd.prog 9 #[.string (bs s)] w (RetV (.bool true) w) := by
  have HM := Lib.hid hm
  have hsz : (bs s).size = s.length := bs_size s
  obtain ⟨l, hl⟩ : ∃ l, l = s.take 200 := ⟨_, rfl⟩
  have hl2 : l.length ≤ 200 := by rw [hl, List.length_take]; omega
  have HE : Hid ((bs s).extract 0 (min (s.length : Int) 200).toNat = bs l) := Lib.hid (by
    rw [bs_ext, List.drop_zero, hl]
    congr 1
    by_cases h : s.length ≤ 200
    · rw [List.take_of_length_le (by omega), List.take_of_length_le h]
    · congr 1
      omega)
  have HA := Lib.hid (fun w => jumps_any l (by omega) w)
  have HB := Lib.hid (fun w => rjumps_any l (by omega) w)
  have HC := Lib.hid (fun w hm => text_any l (by omega) w hm)
  have HD := Lib.hid (fun w => rtext_any l (by omega) w)
  have hn63 : (jumpsL l).length ≤ 200 := Nat.le_trans (eachL_len (jF l) (jF_len l) l l.length 0 (by omega)) hl2
  have hm63 : (textsL l).length ≤ 200 := Nat.le_trans (eachL_len (tF l) (fun _ => Nat.le_refl _) l l.length 0 (by omega)) hl2
  clear hm hl hl2
  generalize jumpsL l = js at HA HB hn63
  generalize textsL l = ts at HC HD hm63
  go_enter Tryd.func9, Tryd.ntmps9
  go_wp2_with fail
  refine (opex_any _ HM.out).mono ?_
  rintro e w1 ⟨rfl, hb1⟩
  have HS1 := Lib.hid ((St.start (ag_emp w)).grow hb1)
  clear hb1
  go_wp2_with fail
  rw [HE.out]
  refine (HA.out _).mono ?_
  rintro e w2 ⟨v1, rfl, S2⟩
  have HS2 := Lib.hid (HS1.out.more S2)
  clear S2 HS1
  obtain ⟨A1, c1, rfl⟩ := own_slice HS2.out 0 rfl
  go_wp2_with fail
  refine (HB.out _).mono ?_
  rintro e w3 ⟨v2, rfl, S3⟩
  have HS3 := Lib.hid (HS2.out.more S3)
  clear S3 HS2
  obtain ⟨A2, c2, rfl⟩ := own_slice HS3.out 0 rfl
  go_wp2_with fail
  refine (HC.out _ (HM.out.later HS3.out.below)).mono ?_
  rintro e w4 ⟨v3, rfl, S4⟩
  have HS4 := Lib.hid (HS3.out.more S4)
  clear S4 HS3
  obtain ⟨A3, c3, rfl⟩ := own_slice HS4.out 0 rfl
  go_wp2_with fail
  refine (HD.out _).mono ?_
  rintro e w5 ⟨v4, rfl, S5⟩
  obtain ⟨A4, c4, rfl⟩ := own_slice S5 0 rfl
  have HS5 : Hid (St empH w none_ empH w5 [own 9 1 (.slice A4 ts.length c4) ts.length (ts.map strV), own 9 1 (.slice A3 ts.length c3) ts.length (ts.map strV), own 3 1 (.slice A2 js.length c2) js.length (js.map intV), own 3 1 (.slice A1 js.length c1) js.length (js.map intV)]) := Lib.hid (HS4.out.more S5)
  clear S5 HS4
  obtain ⟨n, hn⟩ : ∃ n, n = js.length := ⟨_, rfl⟩
  obtain ⟨m, hm⟩ : ∃ m, m = ts.length := ⟨_, rfl⟩
  rw [← hn, ← hm] at HS5 ⊢
  rw [← hn] at hn63
  rw [← hm] at hm63
  have HN := Lib.hid hn
  have HMM := Lib.hid hm
  clear hn hm
  go_wp2_with fail
  go_loopw [8] (fun z wr => ∃ k : Nat, z = .int .i64 k ∧ k ≤ n ∧ Hid (St empH w none_ empH wr [own 9 1 (.slice A4 m c4) m (ts.map strV), own 9 1 (.slice A3 m c3) m (ts.map strV), own 3 1 (.slice A2 n c2) n (js.map intV), own 3 1 (.slice A1 n c1) n (js.map intV)])) (fun z _ => n - (intOf z).toNat)
  case atStart => exact ⟨0, rfl, Nat.zero_le _, HS5⟩
  case round =>
    clear HS5
    obtain ⟨k, rfl, hk, HS⟩ := hrel
    obtain ⟨wp, rfl⟩ : ∃ wp : World, wp = wr := ⟨_, rfl⟩
    by_cases hlt : k < n
    · obtain ⟨g1, rfl, _⟩ := HS.out.ownForm 3 rfl (by omega)
      obtain ⟨g2, rfl, _⟩ := HS.out.ownForm 2 rfl (by omega)
      obtain ⟨x, hx⟩ : ∃ x : Nat, js[k]? = some x := ⟨_, List.getElem?_eq_getElem (by have := HN.out; omega)⟩
      have e1 : wp.cell? ⟨g1, k, none⟩ = some (.int .i64 x) := by rw [HS.out.ownCell 3 rfl k (by omega), List.getElem?_map, hx]; rfl
      have e2 : wp.cell? ⟨g2, k, none⟩ = some (.int .i64 x) := by rw [HS.out.ownCell 2 rfl k (by omega), List.getElem?_map, hx]; rfl
      clear hx
      go_wp2_with fail
      go_quiet (fail)
      go_wp2_with fail
      go_roundw
      case rel => exact ⟨k + 1, by go_num, by omega, HS.out.drewN _⟩
      case measure => simp [intOf]; omega
    · obtain rfl : k = n := by omega
      go_wp2_with fail
      go_loopw [9] (fun z wr => ∃ i : Nat, z = .int .i64 i ∧ i ≤ m ∧ Hid (St empH w none_ empH wr [own 9 1 (.slice A4 m c4) m (ts.map strV), own 9 1 (.slice A3 m c3) m (ts.map strV), own 3 1 (.slice A2 k c2) k (js.map intV), own 3 1 (.slice A1 k c1) k (js.map intV)])) (fun z _ => m - (intOf z).toNat)
      case atStart => exact ⟨0, rfl, Nat.zero_le _, HS⟩
      case round =>
        clear HS
        obtain ⟨i, rfl, hi, HS⟩ := hrel
        by_cases hlt : i < m
        · obtain ⟨g1, rfl, _⟩ := HS.out.ownForm 1 rfl (by omega)
          obtain ⟨g2, rfl, _⟩ := HS.out.ownForm 0 rfl (by omega)
          obtain ⟨x, hx⟩ : ∃ x, ts[i]? = some x := ⟨_, List.getElem?_eq_getElem (by have := HMM.out; omega)⟩
          have e1 : wr.cell? ⟨g1, i, none⟩ = some (.string (bs x)) := by rw [HS.out.ownCell 1 rfl i (by omega), List.getElem?_map, hx]; rfl
          have e2 : wr.cell? ⟨g2, i, none⟩ = some (.string (bs x)) := by rw [HS.out.ownCell 0 rfl i (by omega), List.getElem?_map, hx]; rfl
          clear hx
          go_wp2_with fail
          go_quiet (fail)
          go_wp2_with fail
          go_roundw
          case rel => exact ⟨i + 1, by go_num, by omega, HS.out.drewN _⟩
          case measure => simp [intOf]; omega
        · obtain rfl : i = m := by omega
          go_wp2_with fail
          go_ret
          exact ⟨rfl, HS.out.below⟩
theorem texts_wf (s : ByteArray) (hs : s.size ≤ 140737488355328) (W : World) (h : W.ShapedOpen Tryd.prog) : Calls Tryd.prog 9 #[.string s] W (RetV (.bool true) W) :=
  texts_any s.data.toList (by simpa using hs) W (maxAt_shaped h)
end Go.Proofs.YtfphlkkhpccpnaaDoor
