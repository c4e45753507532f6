/-
  The document's chapter 12: Jumps.
-/
import Derived.Test.YtfphlkkhpccpnaaDoorOpJumps
namespace Go.Proofs.YtfphlkkhpccpnaaDoor
open Go.RowKit Go.Proofs K
set_option linter.unusedVariables false

theorem nextI_min (l : List UInt8) (p q : Nat) (hq : q = pushB8 (l.getD p 0)) : nextI l p = min (p + q + 1) l.length := by
  unfold nextI
  rw [← hq]
  omega
set_option maxRecDepth 100000 in
set_option maxHeartbeats 4000000 in
theorem rjumps_any (l : List UInt8) (hl : l.length ≤ 1000) (w : World) : Calls Tryd.prog 30 #[.string (bs l)] w (IntsP (jumpsL l) w) := by
  have hsz : (bs l).size = l.length := bs_size l
  obtain ⟨i0, hi0, hz0, hz1, hz2⟩ := info_parts infoInt
  have HS0 : Hid (St empH w none_ empH w [own 3 1 (.slice none 0 0) ([] : List Nat).length (([] : List Nat).map intV)]) := Lib.hid (St.start (ag_emp w)).own_nil
  have HJL : Hid ((jumpsL l).length ≤ l.length) := Lib.hid (eachL_len (jF l) (jF_len l) l l.length 0 (by omega))
  go_enter Tryd.func30, Tryd.ntmps30
  go_wp2_with fail
  go_loopw [3, 4] (fun v z wr => ∃ (p : Nat) (xs : List Nat) (A : Option Addr) (c : Nat), z = .int .i64 p ∧ p ≤ 2000 ∧ v = .slice A xs.length c ∧ Hid (St empH w none_ empH wr [own 3 1 (.slice A xs.length c) xs.length (xs.map intV)]) ∧ Hid (xs ++ eachL (jF l) l (min p l.length) = jumpsL l)) (fun _ z _ => l.length - (intOf z).toNat)
  case atStart => exact ⟨0, [], none, 0, rfl, by omega, rfl, HS0, Lib.hid (by rw [Nat.min_eq_left (Nat.zero_le _)]; rfl)⟩
  case round =>
    clear HS0
    obtain ⟨p, xs, A, c, rfl, hp, rfl, HS, HX⟩ := hrel
    by_cases hlt : p < l.length
    · have hk2 : p < (bs l).size := by rw [hsz]; exact hlt
      obtain ⟨q, hq⟩ : ∃ q, q = pushB8 (l.getD p 0) := ⟨_, rfl⟩
      have hq32 : q ≤ 32 := by rw [hq]; unfold pushB8; split <;> omega
      obtain ⟨B, hB⟩ : ∃ B, B = pushB ((bs l)[p].toNat : Int) := ⟨_, rfl⟩
      have HP : Hid (∀ w, Calls Tryd.prog 28 #[.int .u8 ((bs l)[p].toNat : Int)] w (fun e w' => e = .returned (.tuple #[.int .i64 (q : Int), .bool B]) ∧ w = w')) := Lib.hid fun w => by
        have h8 := (bs l)[p].toNat_lt
        have := rpush_any ((bs l)[p].toNat : Int) (by omega) (by omega) w
        unfold PushP at this
        rw [pushN_b, bs_at hk2, ← hq] at this
        rw [hB, bs_at hk2]
        exact this
      have HN : Hid (xs ++ (jF l p ++ eachL (jF l) l (min (p + q + 1) l.length)) = jumpsL l) := Lib.hid (by
        have h := HX.out
        rw [Nat.min_eq_left (Nat.le_of_lt hlt), eachL_step (jF l) hlt, nextI_min l p q hq] at h
        exact h)
      have hxl : xs.length ≤ 1000 := by
        have h1 : (xs ++ (jF l p ++ eachL (jF l) l (min (p + q + 1) l.length))).length = (jumpsL l).length := by rw [HN.out]
        rw [List.length_append] at h1
        have := HJL.out
        omega
      have HXL := Lib.hid hxl
      clear hB hq HX hxl
      by_cases hj : (l.getD p 0).toNat = 91
      · have hb : ((((bs l)[p]'hk2).toNat : Int) == 91) = true := by rw [bs_at hk2, beq_iff_eq]; omega
        have HJ := Lib.hid (show jF l p = [p] by unfold jF; rw [if_pos hj])
        have HS1 := Lib.hid (HS.out.alloc (.cells #[.int .i64 p] 3))
        clear hj
        go_wp2_with (first
          | (at_builtin; refine wpList_append_st 1 3 HS1.out rfl rfl _ _ 68 rfl i0 _ 8 Tryd.underlying68 hi0 hz0 hz1 hz2 rfl (by decide) rfl ⟨wr.heap.size, 0, none⟩ 1 1 [.int .i64 p] rfl rfl (fun j u hj => by
              rcases j with _ | j
              · cases hj; exact HS1.out.cell 0 rfl rfl
              · simp at hj) (by simp [Value.oneCell']) (by have := HXL.out; unfold maxLen; omega) (by have := HXL.out; omega) ?_)
          | fail)
        intro A' c' w2 S2
        have HS2 : Hid (St empH w none_ empH w2 [own 3 1 (.slice A' (xs ++ [p]).length c') (xs ++ [p]).length ((xs ++ [p]).map intV)]) := Lib.hid (by
          have h := S2.drop 1
          rw [List.length_append, List.map_append]
          exact h)
        have HL1 := Lib.hid (show (xs ++ [p]).length = xs.length + 1 by simp)
        clear S2 HS1 HS
        go_wp2_with fail
        refine (HP.out _).mono ?_
        rintro e w3 ⟨rfl, rfl⟩
        go_wp2_with fail
        go_roundw
        case rel => exact ⟨p + q + 1, xs ++ [p], A', c', by go_num, by omega, by rw [HL1.out], HS2, Lib.hid (by rw [← HN.out, HJ.out, List.append_assoc])⟩
        case measure => simp [intOf]; omega
      · have hb : ((((bs l)[p]'hk2).toNat : Int) == 91) = false := by rw [bs_at hk2, beq_eq_false_iff_ne]; omega
        have HJ := Lib.hid (show jF l p = [] by unfold jF; rw [if_neg hj])
        clear hj
        go_wp2_with fail
        refine (HP.out _).mono ?_
        rintro e w3 ⟨rfl, rfl⟩
        go_wp2_with fail
        go_roundw
        case rel => exact ⟨p + q + 1, xs, A, c, by go_num, by omega, rfl, HS, Lib.hid (by rw [← HN.out, HJ.out]; rfl)⟩
        case measure => simp [intOf]; omega
    · have hx := HX.out
      rw [Nat.min_eq_right (by omega), eachL_end, List.append_nil] at hx
      subst hx
      go_wp2_with fail
      go_ret
      exact ⟨_, rfl, HS.out⟩
end Go.Proofs.YtfphlkkhpccpnaaDoor
