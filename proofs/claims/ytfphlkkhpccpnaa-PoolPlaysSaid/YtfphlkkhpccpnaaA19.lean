/-
  The document's pool: Add.
-/
import Derived.Test.YtfphlkkhpccpnaaG19
import Derived.Test.YtfphlkkhpccpnaaRi18
namespace Go.Proofs.Ytfphlkkhpccpnaa
open Go.RowKit Go.Proofs K
set_option linter.unusedVariables false

def raddE (d : List El) (t : TxS) : Int := if !rightB t then 1 else if fhas d t.frm t.nonce then 18 else if d.length = 64 then 3 else 0
def raddL (d : List El) (x : El) : List El := if raddE d x.1 = 0 then d.take (fidx d x.1.frm x.1.nonce) ++ ([x] ++ d.drop (fidx d x.1.frm x.1.nonce)) else d
theorem radd1 {d : List El} {t : TxS} (h : rightB t = false) : raddE d t = 1 := by simp [raddE, h]
theorem radd18 {d : List El} {t : TxS} (h : rightB t = true) (h2 : fhas d t.frm t.nonce = true) : raddE d t = 18 := by simp [raddE, h, h2]
theorem radd3 {d : List El} {t : TxS} (h : rightB t = true) (h2 : fhas d t.frm t.nonce = false) (h3 : d.length = 64) : raddE d t = 3 := by simp [raddE, h, h2, h3]
theorem radd0 {d : List El} {t : TxS} (h : rightB t = true) (h2 : fhas d t.frm t.nonce = false) (h3 : ¬ d.length = 64) : raddE d t = 0 := by simp [raddE, h, h2, h3]
def AddR (v : Int) (d' : List El) (H0 H : Hs) (w0 : World) (X : Nat → Prop) (p : Nat) (qs : List Hp) (e : Ending) (w' : World) : Prop :=
  ∃ A c, e = .returned (.int .i64 v) ∧ St H0 w0 X H w' (blk p (refO (.slice A d'.length c)) :: own 33 19 (.slice A d'.length c) d'.length (d'.flatMap encEl) :: qs)
section
variable {H0 H : Hs} {w0 w : World} {X : Nat → Prop} {ps : List Hp} {p : Nat} {d : List El}
set_option maxRecDepth 100000 in
set_option maxHeartbeats 4000000 in
theorem radd_st {A : Option Addr} {c : Nat} (S : St H0 w0 X H w (blk p (refO (.slice A d.length c)) :: own 33 19 (.slice A d.length c) d.length (d.flatMap encEl) :: ps)) (hn : d.length ≤ 64) (x : El) (hx : RepV H x.sl (accsD x.1.acc)) :
    Calls Try.prog 26 #[.pointer (some ⟨p, 0, none⟩), .agg (x.1.cells x.sl)] w (AddR (raddE d x.1) (raddL d x) H0 H w0 X p ps) := by
  have HS1 := Lib.hid (S.alloc (x.1.obj x.sl))
  have HX := Lib.hid hx
  obtain ⟨i0, hi0, hz0, hz1, hz2⟩ := info_parts infoTxP
  obtain ⟨t, ht⟩ : ∃ t, t = x.1 := ⟨_, rfl⟩
  obtain ⟨s, hs⟩ : ∃ s, s = x.sl := ⟨_, rfl⟩
  have HT := Lib.hid ht
  have HSL := Lib.hid hs
  rw [← ht, ← hs] at HS1 HX
  rw [← ht, ← hs]
  clear S hx ht hs
  simp only [TxS.cells]
  go_enter Try.func26, Try.ntmps26
  go_wp2_with (first
    | (refine wpList_load_st (cs := t.cells s) 0 HS1.out rfl rfl 33 (.tmp 3) rfl rfl _ Try.underlying33 rfl szTx ?_)
    | fail)
  refine (rright_any t s H H _ HS1.out.ag HS1.out.ag HX.out).mono ?_
  rintro e w1 ⟨rfl, S1⟩
  have HS2 : Hid (St H0 w0 X H w1 (blk w.heap.size (t.obj s) :: blk p (refO (.slice A d.length c)) :: own 33 19 (.slice A d.length c) d.length (d.flatMap encEl) :: ps)) := Lib.hid (HS1.out.more S1)
  clear S1 HS1
  have x1 : w1.cell? ⟨w.heap.size, 1, none⟩ = some (.string t.frm) := HS2.out.cell 0 rfl rfl
  have x3 : w1.cell? ⟨w.heap.size, 3, none⟩ = some (.int .u64 t.nonce) := HS2.out.cell 0 rfl rfl
  go_wp2_with fail
  refine (find_st HS2.out 1 rfl 2 rfl hn t.frm t.nonce).mono ?_
  rintro e w2 ⟨rfl, S3⟩
  have HS3 := Lib.hid S3
  clear S3 HS2 x1 x3
  have hc0 : w2.cell? ⟨p, 0, none⟩ = some (.slice A d.length c) := HS3.out.cell 1 rfl rfl
  obtain ⟨b1, hb1⟩ : ∃ b1, b1 = rightB t := ⟨_, rfl⟩
  obtain ⟨b2, hb2⟩ : ∃ b2, b2 = fhas d t.frm t.nonce := ⟨_, rfl⟩
  rw [← hb1, ← hb2]
  have hkl := fidx_le d t.frm t.nonce
  obtain ⟨k, hk⟩ : ∃ k, k = fidx d t.frm t.nonce := ⟨_, rfl⟩
  rw [← hk] at hkl ⊢
  have HK := Lib.hid hk
  have HB1 := Lib.hid hb1
  have HB2 := Lib.hid hb2
  clear hk hb1 hb2
  cases b1 with
  | false =>
    have HV : Hid (raddE d t = 1) := Lib.hid (radd1 HB1.out.symm)
    have HL : Hid (raddL d x = d) := Lib.hid (by unfold raddL; rw [← HT.out, HV.out]; rfl)
    go_wp2_with fail
    go_ret
    exact ⟨A, c, by rw [HV.out]; rfl, by rw [HL.out]; exact HS3.out.drop 0⟩
  | true =>
    cases b2 with
    | true =>
      have HV : Hid (raddE d t = 18) := Lib.hid (radd18 HB1.out.symm HB2.out.symm)
      have HL : Hid (raddL d x = d) := Lib.hid (by unfold raddL; rw [← HT.out, HV.out]; rfl)
      go_wp2_with fail
      go_ret
      exact ⟨A, c, by rw [HV.out]; rfl, by rw [HL.out]; exact HS3.out.drop 0⟩
    | false =>
      by_cases h64 : d.length = 64
      · have HV : Hid (raddE d t = 3) := Lib.hid (radd3 HB1.out.symm HB2.out.symm h64)
        have HL : Hid (raddL d x = d) := Lib.hid (by unfold raddL; rw [← HT.out, HV.out]; rfl)
        have e64 : ((d.length : Int) == 64) = true := by rw [beq_iff_eq]; omega
        clear h64
        go_wp2_with fail
        go_ret
        exact ⟨A, c, by rw [HV.out]; rfl, by rw [HL.out]; exact HS3.out.drop 0⟩
      · have HV : Hid (raddE d t = 0) := Lib.hid (radd0 HB1.out.symm HB2.out.symm h64)
        have HL : Hid (raddL d x = d.take k ++ ([x] ++ d.drop k)) := Lib.hid (by unfold raddL; rw [← HT.out, HV.out, if_pos rfl, HK.out])
        have HLEN : Hid ((d.take k ++ ([x] ++ d.drop k)).length = k + 1 + (d.length - k)) := Lib.hid (by simp only [List.length_append, List.length_take, List.length_drop, List.length_singleton, Nat.min_eq_left hkl]; omega)
        have e64 : ((d.length : Int) == 64) = false := by rw [beq_eq_false_iff_ne]; omega
        have hform : (A = none ∧ d.length = 0 ∧ c = 0) ∨ ∃ g, A = some ⟨g, 0, none⟩ ∧ d.length ≤ c := by
          rcases (HS3.out.own_at 2 rfl).2 with ⟨hv, h0⟩ | ⟨g', cap, cur, hv, _, _, hnc, _⟩
          · simp only [Value.slice.injEq] at hv; exact .inl hv
          · simp only [Value.slice.injEq] at hv; exact .inr ⟨g', hv.1, by rw [hv.2.2]; exact hnc⟩
        have HENC : Hid ((t.cells s).toList = encEl x) := Lib.hid (by rw [HT.out, HSL.out]; rfl)
        have HS4 := Lib.hid (HS3.out.own_nil (e := 33) (size := 19))
        have hd64 : d.length < 64 := by omega
        clear h64
        rcases hform with ⟨rfl, h0, rfl⟩ | ⟨g, rfl, hcap⟩
        · obtain rfl : k = 0 := by omega
          have HD0 : Hid (d = []) := Lib.hid (List.eq_nil_of_length_eq_zero h0)
          rw [h0] at HS3 HS4 hc0 e64
          clear hkl hd64 hn
          have HS5 : Hid (St H0 w0 X H w2 (own 33 19 (.slice none 0 0) 0 [] :: blk w.heap.size (t.obj s) :: blk p (refO (.slice none 0 0)) :: own 33 19 (.slice none 0 0) 0 (d.flatMap encEl) :: ps)) := HS4
          clear HS4 HS3
          go_wp2_with (first
            | (refine wpList_load_st (cs := t.cells s) 1 HS5.out rfl rfl 33 (.tmp 3) rfl rfl _ Try.underlying33 rfl szTx ?_)
            | (refine wpList_build_one_st (e := 33) (cs := t.cells s) HS5.out rfl (.tmp 41) rfl rfl i0 _ Try.underlying42 hi0 hz0 hz1 (by simp [TxS.size_cells]) (by simp [TxS.size_cells]) ?_)
            | fail)
          intro S6
          have HS6 : Hid (St H0 w0 X H (w2.alloc (.cells (t.cells s) 33)) (own 33 19 (.slice (some ⟨w2.heap.size, 0, none⟩) 1 1) 1 (t.cells s).toList :: own 33 19 (.slice none 0 0) 0 [] :: blk w.heap.size (t.obj s) :: blk p (refO (.slice none 0 0)) :: own 33 19 (.slice none 0 0) 0 (d.flatMap encEl) :: ps)) := S6
          clear S6 HS5 hc0
          go_wp2_with (at_builtin; refine wpList_append_st 1 33 HS6.out rfl rfl (.tmp 40) (.tmp 42) 42 rfl i0 _ 192 Try.underlying42 hi0 hz0 hz1 hz2 rfl (by decide) rfl ⟨w2.heap.size, 0, none⟩ 1 1 (t.cells s).toList rfl (by simp [TxS.size_cells]) ?_ ?_ (by unfold maxLen; omega) (by omega) ?_)
          · intro k u hu
            rw [Addr.add_lit, cell_of_row _ _ _ _ _ _ (heap_alloc_new w2 _), Nat.zero_add]
            simpa using hu
          · intro u hu
            have hu2 : u ∈ t.cells x.sl := by rw [← HSL.out]; simpa using hu
            exact Array.all_eq_true'.1 (oneTx (t := t)) u hu2
          intro A2 c2 w4 S7
          have HS7 : Hid (St H0 w0 X H w4 (own 33 19 (.slice A2 1 c2) 1 (t.cells s).toList :: own 33 19 (.slice (some ⟨w2.heap.size, 0, none⟩) 1 1) 1 (t.cells s).toList :: blk w.heap.size (t.obj s) :: blk p (refO (.slice none 0 0)) :: own 33 19 (.slice none 0 0) 0 (d.flatMap encEl) :: ps)) := by first | exact S7 | simpa using S7
          have hc4 : w4.cell? ⟨p, 0, none⟩ = some (.slice none 0 0) := HS7.out.cell 3 rfl rfl
          clear S7 HS6
          go_wp2_with (first
            | (at_builtin; refine wpList_append_any 0 33 HS7.out rfl rfl (.tmp 45) (.tmp 51) 42 rfl i0 _ 192 Try.underlying42 hi0 hz0 hz1 hz2 rfl (by decide) rfl none 0 0 [] rfl (fun _ => ⟨rfl, rfl⟩) rfl (fun ad e j u hj => by cases e) (by simp) (by unfold maxLen; omega) (by omega) ?_)
            | fail)
          intro A3 c3 w5 S8
          have HS8 : Hid (St H0 w0 X H w5 (own 33 19 (.slice A3 1 c3) 1 (t.cells s).toList :: own 33 19 (.slice (some ⟨w2.heap.size, 0, none⟩) 1 1) 1 (t.cells s).toList :: blk w.heap.size (t.obj s) :: blk p (refO (.slice none 0 0)) :: own 33 19 (.slice none 0 0) 0 (d.flatMap encEl) :: ps)) := Lib.hid (by first | exact S8 | simpa using S8)
          have hc5 : w5.cell? ⟨p, 0, none⟩ = some (.slice none 0 0) := HS8.out.cell 3 rfl rfl
          have hf5 : w5.frozen? ⟨p, 0, none⟩ = false := HS8.out.frozen 3 rfl 0
          clear S8 HS7 hc4
          go_wp2_with fail
          go_ret
          have S9 := HS8.out.setCell (j := 0) 3 rfl (.slice A3 1 c3)
          refine ⟨A3, c3, by rw [HV.out]; rfl, ?_⟩
          rw [HL.out, HD0.out]
          show St H0 w0 X H _ (blk p (refO (.slice A3 1 c3)) :: own 33 19 (.slice A3 1 c3) 1 ([x].flatMap encEl) :: ps)
          rw [show [x].flatMap encEl = (t.cells s).toList by rw [HENC.out]; simp]
          exact ((S9.drop 4).drop 3).drop 2
        · by_cases hedge : c = k
          · subst hedge
            have HD0 : Hid (d.drop c = []) := Lib.hid (List.drop_eq_nil_of_le hcap)
            have HDL : Hid (d.length - c = 0) := Lib.hid (by omega)
            go_wp2_with (first
              | (at_builtin; refine wpList_append_any 0 33 HS4.out rfl rfl (.tmp 32) (.tmp 38) 42 rfl i0 _ 192 Try.underlying42 hi0 hz0 hz1 hz2 rfl (by decide) rfl (some ⟨g, 0, none⟩) c c ((d.take c).flatMap encEl) rfl (fun h => by cases h) (by first | exact els_take_len hkl | rfl) (fun ad e j u hj => by cases e; exact els_take_cell HS4.out 3 rfl hj) els_one (by unfold maxLen; omega) (by omega) ?_)
              | fail)
            intro A1 c1 w3 S5
            have HS5 : Hid (St H0 w0 X H w3 (own 33 19 (.slice A1 c c1) c ((d.take c).flatMap encEl) :: blk w.heap.size (t.obj s) :: blk p (refO (.slice (some ⟨g, 0, none⟩) d.length c)) :: own 33 19 (.slice (some ⟨g, 0, none⟩) d.length c) d.length (d.flatMap encEl) :: ps)) := by first | exact S5 | simpa using S5
            clear S5 HS4 HS3 hc0
            go_wp2_with (first
              | (refine wpList_load_st (cs := t.cells s) 1 HS5.out rfl rfl 33 (.tmp 3) rfl rfl _ Try.underlying33 rfl szTx ?_)
              | (refine wpList_build_one_st (e := 33) (cs := t.cells s) HS5.out rfl (.tmp 41) rfl rfl i0 _ Try.underlying42 hi0 hz0 hz1 (by simp [TxS.size_cells]) (by simp [TxS.size_cells]) ?_)
              | fail)
            intro S6
            have HS6 : Hid (St H0 w0 X H (w3.alloc (.cells (t.cells s) 33)) (own 33 19 (.slice (some ⟨w3.heap.size, 0, none⟩) 1 1) 1 (t.cells s).toList :: own 33 19 (.slice A1 c c1) c ((d.take c).flatMap encEl) :: blk w.heap.size (t.obj s) :: blk p (refO (.slice (some ⟨g, 0, none⟩) d.length c)) :: own 33 19 (.slice (some ⟨g, 0, none⟩) d.length c) d.length (d.flatMap encEl) :: ps)) := S6
            clear S6 HS5
            go_wp2_with (at_builtin; refine wpList_append_st 1 33 HS6.out rfl rfl (.tmp 40) (.tmp 42) 42 rfl i0 _ 192 Try.underlying42 hi0 hz0 hz1 hz2 rfl (by decide) rfl ⟨w3.heap.size, 0, none⟩ 1 1 (t.cells s).toList rfl (by simp [TxS.size_cells]) ?_ ?_ (by unfold maxLen; omega) (by omega) ?_)
            · intro k u hu
              rw [Addr.add_lit, cell_of_row _ _ _ _ _ _ (heap_alloc_new w3 _), Nat.zero_add]
              simpa using hu
            · intro u hu
              have hu2 : u ∈ t.cells x.sl := by rw [← HSL.out]; simpa using hu
              exact Array.all_eq_true'.1 (oneTx (t := t)) u hu2
            intro A2 c2 w4 S7
            have HS7 : Hid (St H0 w0 X H w4 (own 33 19 (.slice A2 (c + 1) c2) (c + 1) ((d.take c).flatMap encEl ++ (t.cells s).toList) :: own 33 19 (.slice (some ⟨w3.heap.size, 0, none⟩) 1 1) 1 (t.cells s).toList :: blk w.heap.size (t.obj s) :: blk p (refO (.slice (some ⟨g, 0, none⟩) d.length c)) :: own 33 19 (.slice (some ⟨g, 0, none⟩) d.length c) d.length (d.flatMap encEl) :: ps)) := by first | exact S7 | simpa using S7
            have hc4 : w4.cell? ⟨p, 0, none⟩ = some (.slice (some ⟨g, 0, none⟩) d.length c) := HS7.out.cell 3 rfl rfl
            clear S7 HS6
            go_wp2_with (first
              | (at_builtin; refine wpList_append_any 0 33 HS7.out rfl rfl (.tmp 45) (.tmp 51) 42 rfl i0 _ 192 Try.underlying42 hi0 hz0 hz1 hz2 rfl (by decide) rfl (some ⟨g, 0, none⟩) 0 0 [] rfl (fun h => by cases h) (by first | exact els_take_len hkl | rfl) (fun ad e j u hj => by cases e; simp at hj) (by simp) (by unfold maxLen; omega) (by omega) ?_)
              | fail)
            intro A3 c3 w5 S8
            have HS8 : Hid (St H0 w0 X H w5 (own 33 19 (.slice A3 (c + 1) c3) (c + 1) (((d.take c).flatMap encEl ++ (t.cells s).toList)) :: own 33 19 (.slice (some ⟨w3.heap.size, 0, none⟩) 1 1) 1 (t.cells s).toList :: blk w.heap.size (t.obj s) :: blk p (refO (.slice (some ⟨g, 0, none⟩) d.length c)) :: own 33 19 (.slice (some ⟨g, 0, none⟩) d.length c) d.length (d.flatMap encEl) :: ps)) := Lib.hid (by first | exact S8 | simpa using S8)
            have hc5 : w5.cell? ⟨p, 0, none⟩ = some (.slice (some ⟨g, 0, none⟩) d.length c) := HS8.out.cell 3 rfl rfl
            have hf5 : w5.frozen? ⟨p, 0, none⟩ = false := HS8.out.frozen 3 rfl 0
            clear S8 HS7 hc4
            go_wp2_with fail
            go_ret
            have S9 := HS8.out.setCell (j := 0) 3 rfl (.slice A3 (c + 1) c3)
            refine ⟨A3, c3, by rw [HV.out]; rfl, ?_⟩
            rw [HL.out, HD0.out, List.append_nil, List.flatMap_append, List.length_append, List.length_take, List.length_singleton, Nat.min_eq_left hkl, show [x].flatMap encEl = (t.cells s).toList by rw [HENC.out]; simp]
            skip
            exact ((S9.drop 4).drop 3).drop 2
          · go_wp2_with (first
              | (at_builtin; refine wpList_append_any 0 33 HS4.out rfl rfl (.tmp 32) (.tmp 38) 42 rfl i0 _ 192 Try.underlying42 hi0 hz0 hz1 hz2 rfl (by decide) rfl (some ⟨g, 0, none⟩) k c ((d.take k).flatMap encEl) rfl (fun h => by cases h) (by first | exact els_take_len hkl | exact els_drop_len) (fun ad e j u hj => by cases e; exact els_take_cell HS4.out 3 rfl hj) els_one (by unfold maxLen; omega) (by omega) ?_)
              | fail)
            intro A1 c1 w3 S5
            have HS5 : Hid (St H0 w0 X H w3 (own 33 19 (.slice A1 k c1) k ((d.take k).flatMap encEl) :: blk w.heap.size (t.obj s) :: blk p (refO (.slice (some ⟨g, 0, none⟩) d.length c)) :: own 33 19 (.slice (some ⟨g, 0, none⟩) d.length c) d.length (d.flatMap encEl) :: ps)) := by first | exact S5 | simpa using S5
            clear S5 HS4 HS3 hc0
            go_wp2_with (first
              | (refine wpList_load_st (cs := t.cells s) 1 HS5.out rfl rfl 33 (.tmp 3) rfl rfl _ Try.underlying33 rfl szTx ?_)
              | (refine wpList_build_one_st (e := 33) (cs := t.cells s) HS5.out rfl (.tmp 41) rfl rfl i0 _ Try.underlying42 hi0 hz0 hz1 (by simp [TxS.size_cells]) (by simp [TxS.size_cells]) ?_)
              | fail)
            intro S6
            have HS6 : Hid (St H0 w0 X H (w3.alloc (.cells (t.cells s) 33)) (own 33 19 (.slice (some ⟨w3.heap.size, 0, none⟩) 1 1) 1 (t.cells s).toList :: own 33 19 (.slice A1 k c1) k ((d.take k).flatMap encEl) :: blk w.heap.size (t.obj s) :: blk p (refO (.slice (some ⟨g, 0, none⟩) d.length c)) :: own 33 19 (.slice (some ⟨g, 0, none⟩) d.length c) d.length (d.flatMap encEl) :: ps)) := S6
            clear S6 HS5
            go_wp2_with (at_builtin; refine wpList_append_st 1 33 HS6.out rfl rfl (.tmp 40) (.tmp 42) 42 rfl i0 _ 192 Try.underlying42 hi0 hz0 hz1 hz2 rfl (by decide) rfl ⟨w3.heap.size, 0, none⟩ 1 1 (t.cells s).toList rfl (by simp [TxS.size_cells]) ?_ ?_ (by unfold maxLen; omega) (by omega) ?_)
            · intro k u hu
              rw [Addr.add_lit, cell_of_row _ _ _ _ _ _ (heap_alloc_new w3 _), Nat.zero_add]
              simpa using hu
            · intro u hu
              have hu2 : u ∈ t.cells x.sl := by rw [← HSL.out]; simpa using hu
              exact Array.all_eq_true'.1 (oneTx (t := t)) u hu2
            intro A2 c2 w4 S7
            have HS7 : Hid (St H0 w0 X H w4 (own 33 19 (.slice A2 (k + 1) c2) (k + 1) ((d.take k).flatMap encEl ++ (t.cells s).toList) :: own 33 19 (.slice (some ⟨w3.heap.size, 0, none⟩) 1 1) 1 (t.cells s).toList :: blk w.heap.size (t.obj s) :: blk p (refO (.slice (some ⟨g, 0, none⟩) d.length c)) :: own 33 19 (.slice (some ⟨g, 0, none⟩) d.length c) d.length (d.flatMap encEl) :: ps)) := by first | exact S7 | simpa using S7
            have hc4 : w4.cell? ⟨p, 0, none⟩ = some (.slice (some ⟨g, 0, none⟩) d.length c) := HS7.out.cell 3 rfl rfl
            clear S7 HS6
            go_wp2_with (first
              | (at_builtin; refine wpList_append_any 0 33 HS7.out rfl rfl (.tmp 45) (.tmp 51) 42 rfl i0 _ 192 Try.underlying42 hi0 hz0 hz1 hz2 rfl (by decide) rfl (some ⟨g, k * 19, none⟩) (d.length - k) (c - k) ((d.drop k).flatMap encEl) rfl (fun h => by cases h) (by first | exact els_take_len hkl | exact els_drop_len) (fun ad e j u hj => by cases e; exact els_drop_cell HS7.out 4 rfl hj) els_one (by unfold maxLen; omega) (by omega) ?_)
              | fail)
            intro A3 c3 w5 S8
            have HS8 : Hid (St H0 w0 X H w5 (own 33 19 (.slice A3 (k + 1 + ((d.length - k))) c3) (k + 1 + ((d.length - k))) (((d.take k).flatMap encEl ++ (t.cells s).toList) ++ (d.drop k).flatMap encEl) :: own 33 19 (.slice (some ⟨w3.heap.size, 0, none⟩) 1 1) 1 (t.cells s).toList :: blk w.heap.size (t.obj s) :: blk p (refO (.slice (some ⟨g, 0, none⟩) d.length c)) :: own 33 19 (.slice (some ⟨g, 0, none⟩) d.length c) d.length (d.flatMap encEl) :: ps)) := Lib.hid (by first | exact S8 | simpa using S8)
            have hc5 : w5.cell? ⟨p, 0, none⟩ = some (.slice (some ⟨g, 0, none⟩) d.length c) := HS8.out.cell 3 rfl rfl
            have hf5 : w5.frozen? ⟨p, 0, none⟩ = false := HS8.out.frozen 3 rfl 0
            clear S8 HS7 hc4
            go_wp2_with fail
            go_ret
            have S9 := HS8.out.setCell (j := 0) 3 rfl (.slice A3 (k + 1 + ((d.length - k))) c3)
            refine ⟨A3, c3, by rw [HV.out]; rfl, ?_⟩
            rw [HL.out, List.flatMap_append, List.flatMap_append, HLEN.out, show [x].flatMap encEl = (t.cells s).toList by rw [HENC.out]; simp, ← List.append_assoc]
            skip
            exact ((S9.drop 4).drop 3).drop 2
end
end Go.Proofs.Ytfphlkkhpccpnaa
