/-
  The document's chapter 12: Text.
-/
import Derived.Test.YtfphlkkhpccpnaaDoorRJmp
import Derived.Test.YtfphlkkhpccpnaaDoorRHex
import Derived.Test.YtfphlkkhpccpnaaDoorROf
import Derived.Test.YtfphlkkhpccpnaaDoorOpText
namespace Go.Proofs.YtfphlkkhpccpnaaDoor
open Go.RowKit Go.Proofs K
set_option linter.unusedVariables false

set_option maxRecDepth 100000 in
set_option maxHeartbeats 8000000 in
theorem rtext_any (l : List UInt8) (hl : l.length ≤ 1000) (w : World) : Calls Tryd.prog 32 #[.string (bs l)] w (TextsP (textsL l) w) := by
  have hsz : (bs l).size = l.length := bs_size l
  obtain ⟨i0, hi0, hz0, hz1, hz2⟩ := info_parts infoStr
  have HS0 : Hid (St empH w none_ empH w [own 9 1 (.slice none 0 0) ([] : List (List UInt8)).length (([] : List (List UInt8)).map strV)]) := Lib.hid (St.start (ag_emp w)).own_nil
  have HJL : Hid ((textsL l).length ≤ l.length) := Lib.hid (eachL_len (tF l) (fun _ => Nat.le_refl _) l l.length 0 (by omega))
  go_enter Tryd.func32, Tryd.ntmps32
  go_wp2_with fail
  go_loopw [3, 4] (fun v z wr => ∃ (p : Nat) (xs : List (List UInt8)) (A : Option Addr) (c : Nat), z = .int .i64 p ∧ p ≤ 2000 ∧ v = .slice A xs.length c ∧ Hid (St empH w none_ empH wr [own 9 1 (.slice A xs.length c) xs.length (xs.map strV)]) ∧ Hid (xs ++ eachL (tF l) l (min p l.length) = textsL l)) (fun _ z _ => l.length - (intOf z).toNat)
  case atStart => exact ⟨0, [], none, 0, rfl, by omega, rfl, HS0, Lib.hid (by rw [Nat.min_eq_left (Nat.zero_le _)]; rfl)⟩
  case round =>
    clear HS0
    obtain ⟨p, xs, A, c, rfl, hp, rfl, HS, HX⟩ := hrel
    by_cases hlt : p < l.length
    · have hk2 : p < (bs l).size := by rw [hsz]; exact hlt
      obtain ⟨b, hb⟩ : ∃ b, b = l.getD p 0 := ⟨_, rfl⟩
      have HBB := Lib.hid (show (bs l)[p]'hk2 = b by rw [bs_at hk2, hb])
      obtain ⟨q, hq⟩ : ∃ q, q = pushB8 b := ⟨_, rfl⟩
      have hq32 : q ≤ 32 := by rw [hq]; unfold pushB8; split <;> omega
      obtain ⟨B, hB⟩ : ∃ B, B = pushB (b.toNat : Int) := ⟨_, rfl⟩
      have HP : Hid (∀ w, Calls Tryd.prog 28 #[.int .u8 (b.toNat : Int)] w (fun e w' => e = .returned (.tuple #[.int .i64 (q : Int), .bool B]) ∧ w = w')) := Lib.hid fun w => by
        have h8 := b.toNat_lt
        have := rpush_any (b.toNat : Int) (by omega) (by omega) w
        unfold PushP at this
        rw [pushN_b, ← hq, ← hB] at this
        exact this
      have HN : Hid (xs ++ (tF l p ++ eachL (tF l) l (min (p + q + 1) l.length)) = textsL l) := Lib.hid (by
        have h := HX.out
        rw [Nat.min_eq_left (Nat.le_of_lt hlt), eachL_step (tF l) hlt, nextI_min l p q (by rw [hq, hb])] at h
        exact h)
      have hxl : xs.length ≤ 1000 := by
        have h1 : (xs ++ (tF l p ++ eachL (tF l) l (min (p + q + 1) l.length))).length = (textsL l).length := by rw [HN.out]
        rw [List.length_append] at h1
        have := HJL.out
        omega
      have HXL := Lib.hid hxl
      have HTX : Hid (textOf l p = (match opOf b.toNat with | some e => e.2.1 | none => 63 :: hexL [b]) ++ (if q = 0 then [] else [32, 48, 120] ++ hexL (dataL l p))) := Lib.hid (by rw [hq, hb]; rfl)
      have HHX : Hid (∀ w, Calls Tryd.prog 60 #[.string ((bs l).extract p (p + 1))] w (RetV (.string (bs (hexL [b]))) w)) := Lib.hid fun w => by
        have e : (bs l).extract p (p + 1) = bs [b] := by
          rw [bs_ext, hb]
          congr 1
          rw [List.take_succ_eq_append_getElem hlt, List.drop_append_of_le_length (by simp; omega), List.drop_of_length_le (by simp; omega), List.getD_eq_getElem?_getD, List.getElem?_eq_getElem hlt]
          rfl
        rw [e]
        exact rhex_any [b] (by simp) w
      have HDL := Lib.hid (dataL_len hlt)
      have HHD : Hid (∀ w, Calls Tryd.prog 60 #[.string ((bs l).extract (p + 1) (nextI l p))] w (RetV (.string (bs (hexL (dataL l p)))) w)) := Lib.hid fun w => by
        rw [bs_ext]
        exact rhex_any _ (by have := HDL.out; unfold dataL at this; omega) w
      have HNI := Lib.hid (show nextI l p = min (p + 1 + q) l.length by unfold nextI; rw [← hb, ← hq])
      have HQ := Lib.hid hq
      have HOF := Lib.hid (fun w => rofop_any b.toNat b.toNat_lt w)
      have hp1 : p + 1 ≤ l.length := by omega
      clear hB hq HX hxl hb
      have hbb := HBB.out
      cases ho : opOf b.toNat with
      | none =>
        have h0 := push_none ho
        rw [← HQ.out] at h0
        have HOF2 : Hid (∀ w, Calls Tryd.prog 24 #[.int .u8 (b.toNat : Int)] w (fun x w' => x = .returned (.tuple #[.agg #[.string ⟨#[]⟩, .int .u64 0, .int .i64 0, .int .i64 0], .bool false]) ∧ Below w.heap.size w w')) := Lib.hid fun w => by
          have := HOF.out w
          unfold OfP opD at this
          rw [ho] at this
          exact this
        subst h0
        have HT2 : Hid (textOf l p = 63 :: hexL [b]) := Lib.hid (by rw [HTX.out, ho]; simp)
        clear ho HTX HOF
        go_wp2_with fail
        refine (HOF2.out _).mono ?_
        rintro e w1 ⟨rfl, hb1⟩
        have HS1 := Lib.hid ((HS.out.grow hb1).alloc (.cells #[.string ⟨#[]⟩, .int .u64 0, .int .i64 0, .int .i64 0] 60))
        clear hb1 HS
        go_wp2_with fail
        refine (HP.out _).mono ?_
        rintro e w1' ⟨rfl, rfl⟩
        go_wp2_with fail
        refine (HHX.out _).mono ?_
        rintro e w2 ⟨rfl, hb2⟩
        have HS2 := Lib.hid (HS1.out.grow hb2)
        have hcat : (9223372036854775807 < 1 + (bs (hexL [b])).size) = False := eq_false (by rw [bs_size, hexL_len]; simp)
        clear HS1 hb2
        have HS8 := Lib.hid (HS2.out.alloc (.cells #[.string ((⟨#[63]⟩ : ByteArray) ++ bs (hexL [b]))] 9))
        go_wp2_with (first
          | (at_builtin; refine wpList_append_st 2 9 HS8.out rfl rfl _ _ 70 rfl i0 _ 16 Tryd.underlying70 hi0 hz0 hz1 hz2 rfl (by decide) rfl ⟨w2.heap.size, 0, none⟩ 1 1 [.string ((⟨#[63]⟩ : ByteArray) ++ bs (hexL [b]))] rfl rfl (fun j u hj => by
              rcases j with _ | j
              · cases hj; exact HS8.out.cell 0 rfl rfl
              · simp at hj) (by simp [Value.oneCell']) (by have := HXL.out; unfold maxLen; omega) (by have := HXL.out; omega) ?_)
          | fail)
        intro A' c' w9 S9
        have HS9 : Hid (St empH w none_ empH w9 [own 9 1 (.slice A' (xs ++ [textOf l p]).length c') (xs ++ [textOf l p]).length ((xs ++ [textOf l p]).map strV)]) := Lib.hid (by
          have hst : Value.string ((⟨#[63]⟩ : ByteArray) ++ bs (hexL [b])) = strV (textOf l p) := by rw [HT2.out]; exact congrArg Value.string (bs_cat [63] _)
          have h := (S9.drop 1).drop 1
          rw [hst] at h
          rw [List.length_append, List.map_append]
          exact h)
        have HL1 := Lib.hid (show (xs ++ [textOf l p]).length = xs.length + 1 by simp)
        clear S9 HS8 HS2
        go_wp2_with fail
        go_roundw
        case rel => exact ⟨p + 0 + 1, xs ++ [textOf l p], A', c', by go_num, by omega, by rw [HL1.out], HS9, Lib.hid (by rw [← HN.out]; unfold tF; rw [List.append_assoc])⟩
        case measure => simp [intOf]; omega
      | some e =>
        have hes := opOf_short ho
        have HOF2 : Hid (∀ w, Calls Tryd.prog 24 #[.int .u8 (b.toNat : Int)] w (fun x w' => x = .returned (.tuple #[.agg #[.string (bs e.2.1), .int .u64 e.2.2.1, .int .i64 e.2.2.2.1, .int .i64 e.2.2.2.2], .bool true]) ∧ Below w.heap.size w w')) := Lib.hid fun w => by
          have := HOF.out w
          unfold OfP opD at this
          rw [ho] at this
          exact this
        have HT1 : Hid (textOf l p = e.2.1 ++ (if q = 0 then [] else [32, 48, 120] ++ hexL (dataL l p))) := Lib.hid (by rw [HTX.out, ho])
        clear ho HTX HOF
        have HQ2 := Lib.hid (Nat.eq_zero_or_pos q)
        go_wp2_with fail
        refine (HOF2.out _).mono ?_
        rintro x w1 ⟨rfl, hb1⟩
        have HS1 := Lib.hid ((HS.out.grow hb1).alloc (.cells #[.string (bs e.2.1), .int .u64 e.2.2.1, .int .i64 e.2.2.2.1, .int .i64 e.2.2.2.2] 60))
        clear hb1 HS
        rcases HQ2.out with h0 | hpos
        · subst h0
          have HT2 : Hid (textOf l p = e.2.1) := Lib.hid (by rw [HT1.out]; simp)
          go_wp2_with fail
          refine (HP.out _).mono ?_
          rintro x w1' ⟨rfl, rfl⟩
          obtain ⟨W1, hW1⟩ : ∃ W1, W1 = w1.alloc (.cells #[.string (bs e.2.1), .int .u64 e.2.2.1, .int .i64 e.2.2.2.1, .int .i64 e.2.2.2.2] 60) := ⟨_, rfl⟩
          rw [← hW1] at HS1 ⊢
          have c1 : W1.cell? ⟨w1.heap.size, 0, none⟩ = some (.string (bs e.2.1)) := HS1.out.cell 0 rfl rfl
          clear hW1
          have HS8 := Lib.hid (HS1.out.alloc (.cells #[.string (bs e.2.1)] 9))
          go_wp2_with (first
            | (at_builtin; refine wpList_append_st 2 9 HS8.out rfl rfl _ _ 70 rfl i0 _ 16 Tryd.underlying70 hi0 hz0 hz1 hz2 rfl (by decide) rfl ⟨W1.heap.size, 0, none⟩ 1 1 [.string (bs e.2.1)] rfl rfl (fun j u hj => by
                rcases j with _ | j
                · cases hj; exact HS8.out.cell 0 rfl rfl
                · simp at hj) (by simp [Value.oneCell']) (by have := HXL.out; unfold maxLen; omega) (by have := HXL.out; omega) ?_)
            | fail)
          intro A' c' w9 S9
          have HS9 : Hid (St empH w none_ empH w9 [own 9 1 (.slice A' (xs ++ [textOf l p]).length c') (xs ++ [textOf l p]).length ((xs ++ [textOf l p]).map strV)]) := Lib.hid (by
            have hst : Value.string (bs e.2.1) = strV (textOf l p) := by rw [HT2.out]; rfl
            have h := (S9.drop 1).drop 1
            rw [hst] at h
            rw [List.length_append, List.map_append]
            exact h)
          have HL1 := Lib.hid (show (xs ++ [textOf l p]).length = xs.length + 1 by simp)
          clear S9 HS8 HS1
          go_wp2_with fail
          go_roundw
          case rel => exact ⟨p + 0 + 1, xs ++ [textOf l p], A', c', by go_num, by omega, by rw [HL1.out], HS9, Lib.hid (by rw [← HN.out]; unfold tF; rw [List.append_assoc])⟩
          case measure => simp [intOf]; omega
        · have HT2 : Hid (textOf l p = e.2.1 ++ ([32, 48, 120] ++ hexL (dataL l p))) := Lib.hid (by rw [HT1.out, if_neg (by omega)])
          have hcat1 : (9223372036854775807 < (bs e.2.1).size + 3) = False := eq_false (by omega)
          have hd : (bs (hexL (dataL l p))).size ≤ 64 := by rw [bs_size, hexL_len]; have := HDL.out; omega
          have hcat2 : (9223372036854775807 < (bs e.2.1).size + 3 + (bs (hexL (dataL l p))).size) = False := eq_false (by omega)
          clear hes hd
          have HMN : Hid ((min ((p : Int) + 1 + (q : Int)) (l.length : Int)).toNat = nextI l p) := Lib.hid (by rw [HNI.out]; omega)
          go_wp2_with fail
          refine (HP.out _).mono ?_
          rintro x w1' ⟨rfl, rfl⟩
          go_wp2_with fail
          rw [HMN.out]
          refine (HHD.out _).mono ?_
          rintro x w2 ⟨rfl, hb2⟩
          have HS2 := Lib.hid (HS1.out.grow hb2)
          clear HS1 hb2
          have HS8 := Lib.hid (HS2.out.alloc (.cells #[.string (bs e.2.1 ++ (⟨#[32, 48, 120]⟩ : ByteArray) ++ bs (hexL (dataL l p)))] 9))
          go_wp2_with (first
            | (at_builtin; refine wpList_append_st 2 9 HS8.out rfl rfl _ _ 70 rfl i0 _ 16 Tryd.underlying70 hi0 hz0 hz1 hz2 rfl (by decide) rfl ⟨w2.heap.size, 0, none⟩ 1 1 [.string (bs e.2.1 ++ (⟨#[32, 48, 120]⟩ : ByteArray) ++ bs (hexL (dataL l p)))] rfl rfl (fun j u hj => by
                rcases j with _ | j
                · cases hj; exact HS8.out.cell 0 rfl rfl
                · simp at hj) (by simp [Value.oneCell']) (by have := HXL.out; unfold maxLen; omega) (by have := HXL.out; omega) ?_)
            | fail)
          intro A' c' w9 S9
          have HS9 : Hid (St empH w none_ empH w9 [own 9 1 (.slice A' (xs ++ [textOf l p]).length c') (xs ++ [textOf l p]).length ((xs ++ [textOf l p]).map strV)]) := Lib.hid (by
            have hst : Value.string (bs e.2.1 ++ (⟨#[32, 48, 120]⟩ : ByteArray) ++ bs (hexL (dataL l p))) = strV (textOf l p) := by rw [HT2.out]; show _ = Value.string (bs (e.2.1 ++ ([32, 48, 120] ++ hexL (dataL l p)))); congr 1; apply ByteArray.ext; simp [bs]
            have h := (S9.drop 1).drop 1
            rw [hst] at h
            rw [List.length_append, List.map_append]
            exact h)
          have HL1 := Lib.hid (show (xs ++ [textOf l p]).length = xs.length + 1 by simp)
          clear S9 HS8 HS2
          go_wp2_with fail
          go_roundw
          case rel => exact ⟨p + q + 1, xs ++ [textOf l p], A', c', by go_num, by omega, by rw [HL1.out], HS9, Lib.hid (by rw [← HN.out]; unfold tF; rw [List.append_assoc])⟩
          case measure => simp [intOf]; omega
    · have hx := HX.out
      rw [Nat.min_eq_right (by omega), eachL_end, List.append_nil] at hx
      subst hx
      go_wp2_with fail
      go_ret
      exact ⟨_, rfl, HS.out⟩
end Go.Proofs.YtfphlkkhpccpnaaDoor
